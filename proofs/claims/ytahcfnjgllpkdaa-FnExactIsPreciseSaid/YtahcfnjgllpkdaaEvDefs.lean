import Derived.Calls
import Derived.Orders
import Derived.LoopN
set_option linter.unusedSimpArgs false
set_option linter.unusedVariables false
set_option linter.unnecessarySimpa false
namespace Go.Ev

/-! AN EVALUATOR of the model's code over values without addresses. -/

abbrev Key := Nat × Nat

inductive Md where | own | top | shr | bor
  deriving DecidableEq

/-- Data: a scalar, or a slice of n elements with its cells (flattened). -/
inductive D where
  | sc (v : Value)
  | sl (n : Nat) (cs : List D)

/-- What one cell holds. -/
inductive C where
  | s (v : Value)
  | l (m : Md) (n : Nat) (cs : List D)
  | ep (m : Md) (cs : List D) (pos : Nat)
  | ptr (k : Key) (off : Nat)
  | fn (f : Nat) (caps : List (Key × Nat))
  | bs (k : Key) (n sz : Nat)
  | dead

inductive AV where
  | one (x : C)
  | ag (cs : List C)
  | tu (vs : List (Bool × List C))

abbrev AV.dead : AV := .one .dead
/-- what a skipped operation leaves in its slot -/
abbrev AV.skp : AV := .tu []

def upd {α β : Type} [DecidableEq α] (f : α → β) (a : α) (b : β) : α → β := fun x => if x = a then b else f x

structure St where
  env : Nat → AV
  mem : Key → Option (List C)

def scal : Value → Bool
  | .bool _ | .int _ _ | .string _ | .float _ _ | .nilFunc | .pointer none | .nilIface => true
  | _ => false

def C.ofValue (v : Value) : C := if scal v then .s v else match v with
  | .slice none 0 0 => .l .own 0 []
  | _ => .dead

def AV.ofValue : Value → AV
  | .agg cs => .ag (cs.toList.map C.ofValue)
  | v => .one (C.ofValue v)

def opnd (env : Nat → AV) : Operand → AV
  | .tmp t => env t
  | .const v => AV.ofValue v
  | .func f => .one (.fn f [])
  | .global _ => .dead

def Md.copy : Md → Md
  | .own => .bor | .top => .bor | .shr => .shr | .bor => .bor

def Md.elem : Md → Md
  | .own => .own | .top => .shr | .shr => .shr | .bor => .bor

def C.copy : C → C
  | .l m n cs => .l m.copy n cs
  | c => c

def AV.copy : AV → AV
  | .one c => .one c.copy
  | .ag cs => .ag (cs.map C.copy)
  | .tu _ => .dead

def AV.cells : AV → Option (List C)
  | .one .dead => none
  | .one c => some [c]
  | .ag cs => some cs
  | .tu _ => none

def C.isDead : C → Bool
  | .dead => true
  | _ => false

/-- the slots among operands; are they different ones? -/
def tmpsOf (xs : List Operand) : List Nat := xs.filterMap fun | .tmp t => some t | _ => none
def nodup : List Nat → Bool
  | [] => true
  | x :: r => !r.contains x && nodup r

def C.ofD (m : Md) : D → C
  | .sc v => .s v
  | .sl n cs => .l m n cs

/-- data, and the worst mode among it -/
def C.toD : C → Option D
  | .s v => some (.sc v)
  | .l _ n cs => some (.sl n cs)
  | _ => none

def kil (env : Nat → AV) : Operand → (Nat → AV)
  | .tmp t => upd env t .dead
  | _ => env

/-! types -/
structure TI where
  size : Nat
  bytes : Nat
  agg : Bool
  elem : Option Nat
  flds : List (Nat × Nat)
  zero : List Value

def ti (P : Program) (t : Nat) : Option TI :=
  match P.info? t, P.underlying t with
  | some i, some d =>
    match i.zero with
    | some z => some { size := i.size, bytes := i.bytes, agg := d matches .struct _ | .array _ _, elem := match d with | .slice e => some e | _ => none,
                       flds := match d with | .struct fs => fs.toList.map (fun f => (f.offset, f.type)) | _ => [], zero := z.cells.toList }
    | none => none
  | _, _ => none

/-! scalar operations: the model's own function, where it asks nothing of the world -/
def pureOf (P : Program) {α : Type} : Sem α → Option α
  | .pure a => some a
  | .program k => pureOf P (k P)
  | _ => none

def C.sval : C → Option Value
  | .s v => some v
  | _ => none
def sclr : AV → Option Value
  | .one (.s v) => some v
  | .ag cs => (cs.mapM C.sval).map fun vs => .agg vs.toArray
  | _ => none

def scalarOp (P : Program) (env : Nat → AV) (o : Oper) : Option Value :=
  if o.op.operands.all (fun x => (sclr (opnd env x)).isSome) then
    match pureOf P (execOp (fun x => (sclr (opnd env x)).getD undef) o) with
    | some (.value v) => if scal v then some v else none
    | _ => none
  else none

/-- splice: the cells from 'off' on are replaced -/
def splice {α : Type} (l : List α) (off : Nat) (new : List α) : List α := l.take off ++ new ++ l.drop (off + new.length)

def toInt : AV → Option Int
  | .one (.s (.int .i64 n)) => some n
  | _ => none

def toBool : AV → Option Bool
  | .one (.s (.bool b)) => some b
  | _ => none

def C.ownD : C → Bool
  | .s _ | .l .own _ _ => true
  | _ => false
def C.shrD : C → Bool
  | .s _ | .l .shr _ _ => true
  | _ => false

/-- the mode of a slice made of these cells -/
def modeOf (cs : List C) : Option Md := if cs.all C.ownD then some .own else if cs.all C.shrD then some .top else none

def D.isSc : D → Bool
  | .sc _ => true
  | _ => false

/-- the mode that append's result has -/
def appMode (m my : Md) (cs csy : List D) : Option Md :=
  if csy.all D.isSc then some m else match my with
    | .own => if m = .own then some .own else none
    | .shr => if m = .top ∨ cs.all D.isSc then some .top else none
    | _ => none

def loOf (x : Option Operand) (env : Nat → AV) : Option Int := match x with | none => some 0 | some y => toInt (opnd env y)
def hiOf (x : Option Operand) (env : Nat → AV) (n : Nat) : Option Int := match x with | none => some (n : Int) | some y => toInt (opnd env y)

/-- parts of a literal laid into its cells -/
def fillC (place : Nat → Option (Nat × Nat)) (cs : List C) : List (Nat × List C) → Option (List C)
  | [] => some cs
  | (i, v) :: r =>
    match place i with
    | none => none
    | some (off, size) => if v.length = size ∧ off + size ≤ cs.length then fillC place (splice cs off v) r else none

def maxBytes : Nat := 70368744177664   -- 2^46

/-- where a row lies: a slot's cell, or a cell behind a slot's pointer -/
inductive Plc where
  | sl (t i : Nat)
  | at (t j : Nat)
  | ix (tl ti sz off : Nat)

/-- what the account does without the machine: an owned row becomes a box, and back -/
inductive Gho where
  | thaw (p : Plc) (key sz : Nat)
  | frz (p : Plc)
  | die (p : Plc) (sz : Nat)

/-- what is kept: the slots ahead of each round, the boxes let go, the slots behind the loop, the slots of a return -/
structure Kp where
  hd : List Nat
  bx : List Nat
  ex : List Nat
  rt : List Nat

structure Cfg where
  P : Program
  take : List (Nat × Nat)
  keep : List ((Nat × Nat) × Kp)
  gho : List ((Nat × Nat) × List Gho)
  ctx : List (Nat × (List AV → Option AV))

def Cfg.tk (g : Cfg) (f : Nat) (dst : Option Nat) : Bool :=
  match dst with
  | some t => g.take.contains (f, t)
  | none => false

def lookK {β : Type} (k : Nat × Nat) : List ((Nat × Nat) × β) → Option β
  | [] => none
  | (k', b) :: r => if k' = k then some b else lookK k r

def lookN {β : Type} (k : Nat) : List (Nat × β) → Option β
  | [] => none
  | (k', b) :: r => if k' = k then some b else lookN k r

def C.kill (p : Key → Bool) : C → C
  | .ptr k off => if p k then .dead else .ptr k off
  | .fn f caps => if caps.any (fun c => p c.1) then .dead else .fn f caps
  | .bs k n sz => if p k then .dead else .bs k n sz
  | c => c

def AV.kill (p : Key → Bool) : AV → AV
  | .one c => .one (c.kill p)
  | .ag cs => .ag (cs.map (C.kill p))
  | .tu vs => .tu (vs.map fun (b, cs) => (b, cs.map (C.kill p)))

def memKill (p : Key → Bool) (m : Key → Option (List C)) : Key → Option (List C) := fun k =>
  if p k then none else (m k).map (List.map (C.kill p))

/-- a load from cells -/
def seg {α : Type} (cs : List α) (off size : Nat) : Option (List α) :=
  if off + size ≤ cs.length then some ((cs.drop off).take size) else none

def mkAV (agg : Bool) (cs : List C) : Option AV :=
  if agg then some (.ag cs) else match cs with
  | [c] => some (.one c)
  | _ => none

/-- One operation (but calls of Go functions): the value for its slot, the slots behind it (but for its own), the boxes. -/
def opE (g : Cfg) (d f : Nat) (o : Oper) (σ : St) : Option (AV × St) :=
  let tk := g.tk f o.dst
  let rd (x : Operand) : AV × St := if tk then (opnd σ.env x, { σ with env := kil σ.env x }) else ((opnd σ.env x).copy, σ)
  match o.op with
  | .move x => some (rd x)
  | .assign x => some (opnd σ.env x, { σ with env := kil σ.env x })
  | .pick c a b => do
    let c ← toBool (opnd σ.env c)
    some ((opnd σ.env (if c then a else b)).copy, σ)
  | .extract x i =>
    match x with
    | .tmp t =>
      match σ.env t with
      | .tu vs => do
        let (ag, cs) ← vs[i]?
        let v ← mkAV ag cs
        some (v, { σ with env := upd σ.env t (.tu (vs.set i (ag, cs.map fun _ => .dead))) })
      | _ => none
    | _ => none
  | .alloc e => do
    let i ← ti g.P e
    let t ← o.dst
    if (σ.mem (d, t)).isSome then none else
    some (.one (.ptr (d, t) 0), { σ with mem := upd σ.mem (d, t) (some (i.zero.map C.ofValue)) })
  | .box e x => do
    let _ ← ti g.P e
    let t ← o.dst
    let cs ← (opnd σ.env x).cells
    if (σ.mem (d, t)).isSome then none else
    some (.one (.ptr (d, t) 0), { env := kil σ.env x, mem := upd σ.mem (d, t) (some cs) })
  | .load t a => do
    let i ← ti g.P t
    match opnd σ.env a with
    | .one (.ptr k off) => do
      let cs ← σ.mem k
      let sg ← seg cs off i.size
      if tk then
        if k.1 ≠ d then none else
        let v ← mkAV i.agg sg
        some (v, { σ with mem := upd σ.mem k (some (splice cs off (sg.map fun _ => .dead))) })
      else
        if sg.all (fun c => !c.isDead) then do
          let v ← mkAV i.agg (sg.map C.copy)
          some (v, σ)
        else none
    | .one (.ep m cs pos) => do
      let sg ← seg cs pos i.size
      let v ← mkAV i.agg (sg.map (C.ofD m))
      some (v, σ)
    | _ => none
  | .store t a x => do
    let i ← ti g.P t
    match opnd σ.env a with
    | .one (.ptr k off) => do
      let cs ← σ.mem k
      let new ← (opnd σ.env x).cells
      if new.length = i.size ∧ off + i.size ≤ cs.length ∧ new.all (fun c => !c.isDead) ∧ 0 < i.size then
        some (.dead, { env := kil σ.env x, mem := upd σ.mem k (some (splice cs off new)) })
      else none
    | _ => none
  | .nilCheck x =>
    match opnd σ.env x with
    | .one (.ptr k off) => some (.one (.ptr k off), σ)
    | .one (.ep m cs pos) => some (.one (.ep m cs pos), σ)
    | _ => none
  | .fieldAddr s x fi => do
    let i ← ti g.P s
    let fd ← i.flds[fi]?
    let fi ← ti g.P fd.2
    if fi.size = 0 then none else
    match opnd σ.env x with
    | .one (.ptr k off) => some (.one (.ptr k (off + fd.1)), σ)
    | .one (.ep m cs pos) => some (.one (.ep m cs (pos + fd.1)), σ)
    | _ => none
  | .field s x fi => do
    let i ← ti g.P s
    let fd ← i.flds[fi]?
    let fi ← ti g.P fd.2
    match opnd σ.env x with
    | .ag cs => do
      let sg ← seg cs fd.1 fi.size
      let v ← mkAV fi.agg (sg.map C.copy)
      some (v, σ)
    | _ => none
  | .indexAddr t x ix => do
    let i ← ti g.P t
    let e ← i.elem
    let ei ← ti g.P e
    let n ← toInt (opnd σ.env ix)
    match opnd σ.env x with
    | .one (.l m len cs) =>
      if 0 ≤ n ∧ n < len then some (.one (.ep m.copy.elem cs (n.toNat * ei.size)), σ) else none
    | .one (.bs k len sz) =>
      if 0 ≤ n ∧ n < len ∧ sz = ei.size then some (.one (.ptr k (n.toNat * ei.size)), σ) else none
    | _ => none
  | .build t parts => do
    let i ← ti g.P t
    if !nodup (tmpsOf (parts.toList.map (·.2))) then none else
    let ps ← parts.toList.mapM fun p => (opnd σ.env p.2).cells.map fun cs => (p.1, cs)
    if i.flds.isEmpty then none else
    let pl ← i.flds.mapM fun fd => (ti g.P fd.2).map fun fi => (fd.1, fi.size)
    let cs ← fillC (fun j => pl[j]?) (i.zero.map C.ofValue) ps
    some (.ag cs, { σ with env := parts.toList.foldl (fun e p => kil e p.2) σ.env })
  | .buildSlice t len parts => do
    let i ← ti g.P t
    let e ← i.elem
    let ei ← ti g.P e
    if len * ei.size > 16777216 ∨ ei.size = 0 then none else
    let zero := ei.zero.map C.ofValue
    if zero.length ≠ ei.size then none else
    if !nodup (tmpsOf (parts.toList.map (·.2))) then none else
    let ps ← parts.toList.mapM fun p => (opnd σ.env p.2).cells.map fun cs => (p.1, cs)
    let cs ← fillC (fun j => some (j * ei.size, ei.size)) ((List.replicate len zero).flatten) ps
    let m ← modeOf cs
    let ds ← cs.mapM C.toD
    some (.one (.l m len ds), { σ with env := parts.toList.foldl (fun e p => kil e p.2) σ.env })
  | .slice t x lo hi none => do
    match opnd σ.env x with
    | .one (.l m n cs) => do
      let i ← ti g.P t
      let e ← i.elem
      let ei ← ti g.P e
      let l ← loOf lo σ.env
      let h ← hiOf hi σ.env n
      if 0 ≤ l ∧ l ≤ h ∧ h ≤ n ∧ cs.length = n * ei.size then
        some (.one (.l m.copy (h - l).toNat ((cs.drop (l.toNat * ei.size)).take ((h - l).toNat * ei.size))), σ)
      else none
    | _ => do
      let v ← scalarOp g.P σ.env o
      some (.one (.s v), σ)
  | .makeFunc (.func k) first caps =>
    if first.size = 0 then do
      let cs ← caps.toList.mapM fun x => match opnd σ.env x with | .one (.ptr k off) => some (k, off) | _ => none
      some (.one (.fn k cs), σ)
    else none
  | .makeSlice t l c => do
    let i ← ti g.P t
    let e ← i.elem
    let ei ← ti g.P e
    let n ← toInt (opnd σ.env l)
    let cp ← toInt (opnd σ.env c)
    let zero := ei.zero.map C.ofValue
    if zero.length ≠ ei.size ∨ ei.size = 0 then none else
    if 0 ≤ n ∧ cp = n ∧ n * (ei.bytes + 1) ≤ maxBytes then do
      if tk then
        let t ← o.dst
        if (σ.mem (d, t)).isSome then none else
        some (.one (.bs (d, t) n.toNat ei.size), { σ with mem := upd σ.mem (d, t) (some ((List.replicate n.toNat zero).flatten)) })
      else
      let zd ← zero.mapM C.toD
      some (.one (.l .own n.toNat ((List.replicate n.toNat zd).flatten)), σ)
    else none
  | .call { callee := .builtin .len, args, argTypes } =>
    match args.toList.map (opnd σ.env) with
    | [.one (.l _ n _)] => do
      let t ← argTypes[0]?
      let i ← ti g.P t
      let _ ← i.elem
      some (.one (.s (.int .i64 n)), σ)
    | [.one (.bs _ n _)] => do
      let t ← argTypes[0]?
      let i ← ti g.P t
      let _ ← i.elem
      some (.one (.s (.int .i64 n)), σ)
    | _ => do
      let v ← scalarOp g.P σ.env o
      some (.one (.s v), σ)
  | .call { callee := .builtin .append, args, argTypes } =>
    match args.toList with
    | [x, y] => do
      let t ← argTypes[0]?
      let i ← ti g.P t
      let e ← i.elem
      let ei ← ti g.P e
      if argTypes[1]? ≠ some t ∨ argTypes.size ≠ 2 ∨ !nodup (tmpsOf [x, y]) ∨ o.dst = none then none else
      match opnd σ.env x, opnd σ.env y with
      | .one (.l m n cs), .one (.l my ny csy) => do
        if ¬ (m = .own ∨ m = .top) then none else
        if ¬ (cs.length = n * ei.size ∧ csy.length = ny * ei.size ∧ 0 < ei.size ∧ ei.zero.length = ei.size ∧ (n + ny) * (ei.bytes + 1) ≤ maxBytes) then none else
        let m' ← appMode m my cs csy
        some (.one (.l m' (n + ny) (cs ++ csy)), { σ with env := kil (kil σ.env x) y })
      | _, _ => none
    | _ => none
  | .call { callee := .builtin _, .. } | .binOp .. | .unOp .. | .convert .. | .index .. => do
    let v ← scalarOp g.P σ.env o
    some (.one (.s v), σ)
  | _ => none

def putD (env : Nat → AV) (dst : Option Nat) (v : AV) : Nat → AV :=
  match dst with
  | some t => upd env t v
  | none => env

inductive Out where
  | norm (σ : St)
  | exit (id : Nat) (σ : St)
  | ret (σ : St)

def Out.then (o : Out) (k : St → Option Out) : Option Out := match o with
  | .norm σ => k σ
  | o => some o
def Out.blk (o : Out) (id : Nat) : Out := match o with
  | .exit id' σ => if id' = id then .norm σ else .exit id' σ
  | o => o
def Out.done : Out → Option St
  | .norm σ => some σ
  | .ret σ => some σ
  | .exit .. => none

/-- what may be handed to a callee that has a contract: all as shared -/
def C.lend : C → Option C
  | .s v => some (.s v)
  | .l _ n cs => some (.l .shr n cs)
  | _ => none

def AV.lend : AV → Option AV
  | .one c => c.lend.map .one
  | .ag cs => (cs.mapM C.lend).map .ag
  | .tu _ => none

def C.own? : C → Bool
  | .s _ | .l .own _ _ => true
  | _ => false
def AV.own? : AV → Bool
  | .one c => c.own?
  | .ag cs => cs.all C.own?
  | .tu vs => vs.all fun p => p.2.all C.own?
def C.shr? : C → Bool
  | .s _ | .l .shr _ _ => true
  | _ => false
def AV.shr? : AV → Bool
  | .one c => c.shr?
  | .ag cs => cs.all C.shr?
  | .tu _ => false
def C.data? : C → Bool
  | .s _ | .l .own _ _ | .l .top _ _ | .l .shr _ _ => true
  | _ => false
def AV.data? : AV → Bool
  | .one c => c.data?
  | .ag cs => cs.all C.data?
  | .tu vs => vs.all fun p => p.2.all C.data?

/-- the callee's function value, and what is captured -/
def calleeOf (env : Nat → AV) (x : Operand) : Option (Nat × List AV) := match opnd env x with
  | .one (.fn f caps) => some (f, caps.map fun c => .one (.ptr c.1 c.2))
  | _ => none

/-- where a result lies: a slot, or a box's cells -/
inductive RSrc where
  | sl (t : Nat)
  | bx (k : Key) (off size : Nat) (agg : Bool)

def rsrc (P : Program) (env : Nat → AV) : ResultVar → Option RSrc
  | .tmp t => some (.sl t)
  | .cell t ty => (ti P ty).bind fun i => match env t with
    | .one (.ptr k off) => some (.bx k off i.size i.agg)
    | _ => none

def RSrc.val (σ : St) : RSrc → Option AV
  | .sl t => some (σ.env t)
  | .bx k off size agg => (σ.mem k).bind fun cs => (seg cs off size).bind (mkAV agg)

def tupPart (x : AV) : Option (Bool × List C) := match x with
  | .one c => some (false, [c])
  | .ag cs => some (true, cs)
  | .tu _ => none

def nodupR (l : List RSrc) : Bool :=
  nodup (l.filterMap fun | .sl t => some t | _ => none) && nodup (l.filterMap fun | .bx k _ _ _ => some k.2 | _ => none)

/-- what a function of depth d answers -/
def retVal (P : Program) (d : Nat) (fn : Func) (σ : St) : Option AV :=
  (fn.results.toList.mapM (rsrc P σ.env)).bind fun rs =>
    if !(rs.all fun | .bx k _ _ _ => k.1 == d | _ => true) then none else
    match rs with
    | [r] => RSrc.val σ r
    | rs => if nodupR rs then (rs.mapM fun r => (RSrc.val σ r).bind tupPart).map .tu else none

def rid : Code → Nat
  | .region id _ _ => id
  | .seq a _ => rid a
  | .block _ a => rid a
  | .scope a => rid a
  | .loop a => rid a
  | _ => 0

def restrict (d : Nat) (σ : St) (k : List Nat × List Nat) : St :=
  { env := fun t => if t ∈ k.1 then (σ.env t).kill (fun x => x.1 == d && k.2.contains x.2) else .dead
    mem := memKill (fun x => x.1 == d && k.2.contains x.2) σ.mem }

def Out.loopThen (d : Nat) (k : Kp) (o : Out) (next : St → Option Out) : Option Out := match o with
  | .norm σ => next σ
  | .exit id σ => some (.exit id (restrict d σ (k.ex, k.bx)))
  | .ret σ => some (.ret (restrict d σ (k.rt, k.bx)))

/-! the account's own steps -/
def C.killB : C → C
  | .l .bor _ _ => .dead
  | .ep _ _ _ => .dead
  | c => c

def AV.killB : AV → AV
  | .one c => .one c.killB
  | .ag cs => .ag (cs.map C.killB)
  | .tu vs => .tu (vs.map fun (b, cs) => (b, cs.map C.killB))

def St.killB (σ : St) : St := { env := fun t => (σ.env t).killB, mem := fun k => (σ.mem k).map (List.map C.killB) }
def St.killK (σ : St) (k : Key) : St := { env := fun t => (σ.env t).kill (· == k), mem := memKill (· == k) σ.mem }

/-- where a place's cell lies -/
inductive Loc where
  | env (t i : Nat)
  | mem (k : Key) (off : Nat)

def Plc.loc (σ : St) : Plc → Option Loc
  | .sl t i => some (.env t i)
  | .at t j => match σ.env t with
    | .one (.ptr k off) => some (.mem k (off + j))
    | _ => none
  | .ix tl ti sz off => match σ.env tl, toInt (σ.env ti) with
    | .one (.bs k n _), some i => if 0 ≤ i ∧ i < n then some (.mem k (i.toNat * sz + off)) else none
    | _, _ => none

def Loc.get (σ : St) : Loc → Option C
  | .env t i => match σ.env t with
    | .one c => if i = 0 then some c else none
    | .ag cs => cs[i]?
    | .tu _ => none
  | .mem k off => (σ.mem k).bind fun cs => cs[off]?

def Loc.set (σ : St) (c : C) : Loc → St
  | .env t i => match σ.env t with
    | .one _ => { σ with env := upd σ.env t (.one c) }
    | .ag cs => { σ with env := upd σ.env t (.ag (cs.set i c)) }
    | .tu _ => σ
  | .mem k off => match σ.mem k with
    | some cs => { σ with mem := upd σ.mem k (some (cs.set off c)) }
    | none => σ

def Loc.own? (d : Nat) : Loc → Bool
  | .env _ _ => true
  | .mem k _ => k.1 == d

def Loc.notK (k : Key) : Loc → Bool
  | .env _ _ => true
  | .mem k' _ => k' != k

def gho1 (d : Nat) (σ : St) : Gho → Option St
  | .thaw p key sz => (p.loc σ).bind fun l => (l.get σ).bind fun c => match c with
    | .l m n cs =>
      if (m = .own ∨ m = .top) ∧ l.own? d = true ∧ (σ.mem (d, key)).isSome = false ∧ cs.length = n * sz ∧ 0 < sz then
        let σ1 := (l.set σ.killB (.bs (d, key) n sz))
        some { σ1 with mem := upd σ1.mem (d, key) (some (cs.map (C.ofD m.elem))) }
      else none
    | .bs _ _ _ => some σ
    | _ => none
  | .frz p => (p.loc σ).bind fun l => (l.get σ).bind fun c => match c with
    | .bs k n sz => (σ.mem k).bind fun cs =>
      let ks := cs.take (n * sz)
      (modeOf ks).bind fun m => (ks.mapM C.toD).bind fun ds =>
        if k.1 = d ∧ ks.length = n * sz ∧ 0 < sz ∧ l.notK k = true then some (l.set (σ.killK k) (.l m n ds)) else none
    | _ => some σ
  | .die p sz => (p.loc σ).bind fun l => match l with
    | .mem k off => (σ.mem k).bind fun cs => if off + sz ≤ cs.length then some { σ with mem := upd σ.mem k (some (splice cs off (List.replicate sz .dead))) } else none
    | _ => none

def ghoL (d : Nat) : List Gho → St → Option St
  | [], σ => some σ
  | x :: r, σ => (gho1 d σ x).bind (ghoL d r)

def ghoAt (g : Cfg) (d f id : Nat) (σ : St) : Option St := match lookK (f, id) g.gho with
  | none => some σ
  | some l => ghoL d l σ

/-- the place 'at the end' among a function's regions -/
def atEnd : Nat := 1000000
/-- the place behind a region -/
def behind (id : Nat) : Nat := id + 2000000

/-! what a region that draws its order must meet: operations that no edge orders may be taken in either order -/
/-- what an operation does with boxes: nothing; reads one; makes one; all else -/
inductive Cls where | p | l | a | m | t
  deriving DecidableEq

def clsOf (g : Cfg) (f : Nat) (o : Oper) : Cls :=
  match o.op with
  | .load .. => if g.tk f o.dst then .t else .l
  | .alloc _ | .box _ _ => .a
  | .makeSlice .. => if g.tk f o.dst then .a else .p
  | .store .. => .m
  | .call { callee := .value (.func k), .. } => if (lookN k g.ctx).isSome then .p else .m
  | .call { callee := .value _, .. } => .m
  | _ => .p

def clsOK : Cls → Cls → Bool
  | .p, _ => true
  | _, .p => true
  | .l, .l => true
  | .l, .a => true
  | .t, .l => true
  | .a, .a => true
  | _, _ => false

/-- the slots that it reads: operands, and the guard's -/
def readsOf (ops : Array Oper) (o : Oper) : List Nat :=
  (o.op.operands.toList.filterMap fun | .tmp t => some t | _ => none) ++
  (match o.guard with | some (j, _) => ((ops[j]?).bind (·.dst)).toList | none => [])

/-- the slots that it writes: its own, and those that it takes from -/
def writesOf (g : Cfg) (f : Nat) (o : Oper) : List Nat :=
  o.dst.toList ++
  (let ts := o.op.operands.toList.filterMap fun | .tmp t => some t | _ => none
   match o.op with
   | .move _ => if g.tk f o.dst then ts else []
   | .assign _ | .extract .. | .box .. | .store .. | .build .. | .buildSlice .. => ts
   | .call { callee := .builtin .append, .. } => ts
   | _ => [])

def disj (a b : List Nat) : Bool := a.all fun x => !b.contains x

/-- 'y' (later in the text) may be taken ahead of 'x' -/
def comm (g : Cfg) (f : Nat) (ops : Array Oper) (x y : Oper) : Bool :=
  disj (writesOf g f x) (readsOf ops y) && disj (writesOf g f x) (writesOf g f y) && disj (readsOf ops x) (writesOf g f y) && clsOK (clsOf g f x) (clsOf g f y)

def regionOK (g : Cfg) (f : Nat) (ops : Array Oper) : Bool :=
  (List.range ops.size).all fun i => match ops[i]? with
    | some y => y.after.all (fun e => !Region.binds .any e || e.on < i) && (List.range i).all fun j => match ops[j]? with
      | some x => y.after.any (fun e => e.on == j && Region.binds .any e) || comm g f ops x y
      | none => true
    | none => true

def codeOK (g : Cfg) (f N : Nat) : Code → Bool
  | .region _ ops draw => ops.all (fun o => o.dst.all (· < N) && !(o.op matches .select ..)) && (!draw || (g.P.follows .mixedOrders && regionOK g f ops))
  | .seq a b => codeOK g f N a && codeOK g f N b
  | .cond _ a b => codeOK g f N a && codeOK g f N b
  | .block _ a => codeOK g f N a
  | .loop a => codeOK g f N a
  | .scope a => codeOK g f N a
  | _ => true

def wantV (b : Bool) : AV → Option Bool
  | .tu [] => some false
  | x => (toBool x).bind fun c => some (c == b)
def wants (ops : Array Oper) (env : Nat → AV) (o : Oper) : Option Bool := match o.guard with
  | none => some true
  | some (j, b) => ((ops[j]?).bind (·.dst)).bind fun t => wantV b (env t)

/-- an operation, carried out -/
def stepW (call : Nat → List AV → (Key → Option (List C)) → Option (AV × (Key → Option (List C)))) (g : Cfg) (d f : Nat) (o : Oper) (σ : St) : Option St :=
  match o.op with
  | .call { callee := .value x, args, .. } => (calleeOf σ.env x).bind fun kc =>
    (call kc.1 (args.toList.map (fun y => (opnd σ.env y).copy) ++ kc.2) σ.mem).bind fun rm => some { env := putD σ.env o.dst rm.1, mem := rm.2 }
  | _ => (opE g d f o σ).bind fun vs => some { vs.2 with env := putD vs.2.env o.dst vs.1 }

/-- a function's own checks, once for all -/
def fnOK (g : Cfg) (f : Nat) (fn : Func) : Bool :=
  (match fn.body with | some c => codeOK g f fn.ntmps c | none => false) && fn.name != "runtime.NumGoroutine" && fn.params.size ≤ fn.ntmps

mutual
/-- a call: contract, or the callee's own code -/
def callN (g : Cfg) : Nat → (d : Nat) → (f : Nat) → List AV → (Key → Option (List C)) → Option (AV × (Key → Option (List C)))
  | 0, _, _, _, _ => none
  | n + 1, d, f, args, mem =>
    match lookN f g.ctx with
    | some F => (args.mapM AV.lend).bind fun la => (F la).bind fun r => if r.own? || (r.data? && args.all AV.shr?) then some (r, mem) else none
    | none =>
      match g.P.funcs[f]? with
      | some fn =>
        match fn.body with
        | some c =>
          if !fnOK g f fn || args.length > fn.ntmps then none else
          (evN g n (d + 1) f c { env := fun t => (args[t]?).getD .dead, mem }).bind fun out => out.done.bind fun σ => (ghoAt g (d + 1) f atEnd σ).bind fun σ =>
            (retVal g.P (d + 1) fn σ).bind fun r => some (r.kill (fun k => d < k.1), memKill (fun k => d < k.1) σ.mem)
        | none => none
      | none => none
termination_by n => (n, 0)

def evOps (g : Cfg) : Nat → (d f : Nat) → (ops : Array Oper) → List Oper → St → Option St
  | 0, _, _, _, _, _ => none
  | _ + 1, _, _, _, [], σ => some σ
  | n + 1, d, f, ops, o :: rest, σ => (wants ops σ.env o).bind fun want =>
    (if want then stepW (callN g n d) g d f o σ else some { σ with env := putD σ.env o.dst .skp }).bind fun σ' => evOps g n d f ops rest σ'
termination_by n => (n, 0)

def evN (g : Cfg) : Nat → (d f : Nat) → Code → St → Option Out
  | 0, _, _, _, _ => none
  | n + 1, d, f, c, σ =>
    match c with
    | .skip => some (.norm σ)
    | .label _ => some (.norm σ)
    | .region id ops _ => (ghoAt g d f id σ).bind fun σ => (evOps g n d f ops ops.toList σ).bind fun σ => (ghoAt g d f (behind id) σ).map .norm   -- regions that draw their order: 'codeOK'
    | .seq a b => (evN g n d f a σ).bind fun o => o.then fun σ' => evN g n d f b σ'
    | .cond x a b => (toBool (opnd σ.env x)).bind fun t => if t then evN g n d f a σ else evN g n d f b σ
    | .block id a => (evN g n d f a σ).bind fun o => some (o.blk id)
    | .loop a => (lookK (f, rid a) g.keep).bind fun k => (evN g n d f a (restrict d σ (k.hd, k.bx))).bind fun o => o.loopThen d k fun σ' => evN g n d f (.loop a) σ'
    | .exit id => some (.exit id σ)
    | .ret => some (.ret σ)
    | .rangeFunc _ _ _ _ => none
    | .scope _ => none
    | .goto _ => none
    | .refuse _ => none
termination_by n => (n, 0)
end

end Go.Ev
