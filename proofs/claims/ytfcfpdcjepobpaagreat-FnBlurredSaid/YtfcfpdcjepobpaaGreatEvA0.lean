import Derived.Calls
import Derived.Orders
import Derived.LoopN
set_option linter.unusedSimpArgs false
set_option linter.unusedVariables false
set_option linter.unnecessarySimpa false
noncomputable section
namespace Go.Ev


abbrev Key:=Nat × Nat

inductive Md where | own | top | shr | bor
 deriving DecidableEq

inductive D where
 | sc (v:Value)
 | sl (n:Nat) (cs:List D)

inductive C where
 | s (v:Value)
 | l (m:Md) (n:Nat) (cs:List D)
 | ep (m:Md) (cs:List D) (pos:Nat)
 | ptr (k:Key) (off:Nat)
 | fn (f:Nat) (caps:List (Key × Nat))
 | bs (k:Key) (n sz:Nat)
 /-- a map that nothing writes any more: its keys,and the rows at them -/
 | mp (es:List (ByteArray × Nat × List D))
 | dead

inductive AV where
 | one (x:C)
 | ag (cs:List C)
 | tu (vs:List (Bool × List C))

abbrev AV.dead:AV:=.one .dead
abbrev AV.skp:AV:=.tu []

def upd {α β:Type} [DecidableEq α] (f:α→β) (a:α) (b:β):α→β:=fun x=>if x=a then b else f x

structure St where
 env:Nat→AV
 mem:Key→Option (List C)

def scal:Value→Bool
 | .bool _ | .int _ _ | .string _ | .float _ _ | .nilFunc | .pointer none | .nilIface=>true
 | _=>false

def C.ofValue (v:Value):C:=if scal v then .s v else match v with
 | .slice none 0 0=>.l .own 0 []
 | _=>.dead

def AV.ofValue:Value→AV
 | .agg cs=>.ag (cs.toList.map C.ofValue)
 | v=>.one (C.ofValue v)

def opnd (env:Nat→AV):Operand→AV
 | .tmp t=>env t
 | .const v=>AV.ofValue v
 | .func f=>.one (.fn f [])
 | .global _=>.dead

def Md.copy:Md→Md
 | .own=>.bor | .top=>.bor | .shr=>.shr | .bor=>.bor

def Md.elem:Md→Md
 | .own=>.own | .top=>.shr | .shr=>.shr | .bor=>.bor

def C.copy:C→C
 | .l m n cs=>.l m.copy n cs
 | c=>c

def AV.copy:AV→AV
 | .one c=>.one c.copy
 | .ag cs=>.ag (cs.map C.copy)
 | .tu _=>.dead

def AV.cells:AV→Option (List C)
 | .one .dead=>none
 | .one c=>some [c]
 | .ag cs=>some cs
 | .tu _=>none

def C.isDead:C→Bool
 | .dead=>true
 | _=>false

def tmpsOf (xs:List Operand):List Nat:=xs.filterMap fun | .tmp t=>some t | _=>none
def nodup:List Nat→Bool
 | []=>true
 | x :: r=>!r.contains x && nodup r

def lookM (s:ByteArray):List (ByteArray × Nat × List D)→Option (Nat × List D)
 | []=>none
 | (k,d) :: r=>if k=s then some d else lookM s r

def C.ofD (m:Md):D→C
 | .sc v=>.s v
 | .sl n cs=>.l m n cs

def C.toD:C→Option D
 | .s v=>some (.sc v)
 | .l _ n cs=>some (.sl n cs)
 | _=>none

def kil (env:Nat→AV):Operand→(Nat→AV)
 | .tmp t=>upd env t .dead
 | _=>env

structure TI where
 size:Nat
 bytes:Nat
 agg:Bool
 elem:Option Nat
 flds:List (Nat × Nat)
 zero:List Value

def ti (P:Program) (t:Nat):Option TI :=
 match P.info? t,P.underlying t with
 | some i,some d =>
  match i.zero with
  | some z=>some { size:=i.size,bytes:=i.bytes,agg:=d matches .struct _ | .array _ _,elem:=match d with | .slice e=>some e | _=>none,
                     flds:=match d with | .struct fs=>fs.toList.map (fun f=>(f.offset,f.type)) | _=>[],zero:=z.cells.toList }
  | none=>none
 | _,_=>none

def pureOf (P:Program) {α:Type}:Sem α→Option α
 | .pure a=>some a
 | .program k=>pureOf P (k P)
 | _=>none

def C.sval:C→Option Value
 | .s v=>some v
 | _=>none
def sclr:AV→Option Value
 | .one (.s v)=>some v
 | .ag cs=>(cs.mapM C.sval).map fun vs=>.agg vs.toArray
 | _=>none

def scalarOp (P:Program) (env:Nat→AV) (o:Oper):Option Value :=
 if o.op.operands.all (fun x=>(sclr (opnd env x)).isSome) then
  match pureOf P (execOp (fun x=>(sclr (opnd env x)).getD undef) o) with
  | some (.value v)=>if scal v then some v else none
  | _=>none
 else none

def splice {α:Type} (l:List α) (off:Nat) (new:List α):List α:=l.take off ++ new ++ l.drop (off+new.length)

def lookAV:AV→AV→Option (Nat × List D)
 | .one (.mp es),.one (.s (.string s))=>lookM s es
 | _,_=>none

def toInt:AV→Option Int
 | .one (.s (.int .i64 n))=>some n
 | _=>none

def toBool:AV→Option Bool
 | .one (.s (.bool b))=>some b
 | _=>none

def C.ownD:C→Bool
 | .s _ | .l .own _ _=>true
 | _=>false
def C.shrD:C→Bool
 | .s _ | .l .shr _ _=>true
 | _=>false

def modeOf (cs:List C):Option Md:=if cs.all C.ownD then some .own else if cs.all C.shrD then some .top else none

def D.isSc:D→Bool
 | .sc _=>true
 | _=>false

def appMode (m my:Md) (cs csy:List D):Option Md :=
 if csy.all D.isSc then some m else match my with
  | .own=>if m=.own then some .own else none
  | .shr=>if m=.top∨cs.all D.isSc then some .top else none
  | _=>none

def loOf (x:Option Operand) (env:Nat→AV):Option Int:=match x with | none=>some 0 | some y=>toInt (opnd env y)
def hiOf (x:Option Operand) (env:Nat→AV) (n:Nat):Option Int:=match x with | none=>some (n:Int) | some y=>toInt (opnd env y)

def fillC (place:Nat→Option (Nat × Nat)) (cs:List C):List (Nat × List C)→Option (List C)
 | []=>some cs
 | (i,v) :: r =>
  match place i with
  | none=>none
  | some (off,size)=>if v.length=size∧off+size≤cs.length then fillC place (splice cs off v) r else none

def maxBytes:Nat:=70368744177664

def bigK:Nat:=1000000000

inductive Plc where
 | sl (t i:Nat)
 | at (t j:Nat)
 | ix (tl ti sz off:Nat)
 | mem (k:Key) (off:Nat)
 | ixk (k:Key) (ti sz off:Nat)

inductive Gho where
 | thaw (p:Plc) (key sz:Nat)
 | frz (p:Plc)
 | die (p:Plc) (sz:Nat)
 | calm
 | drop (q:Key→Bool)
 | many (F:St→List Gho)
 | share (t:Nat)
 | shareM (k:Key)

structure Kp where
 hd:List Nat
 bx:List Nat
 ex:List Nat
 rt:List Nat

abbrev deepK:Nat:=3000000
abbrev adoptK:Nat:=5000000

structure Cfg where
 P:Program
 take:List (Nat × Nat)
 keep:List ((Nat × Nat) × Kp)
 gho:List ((Nat × Nat) × List Gho)
 ctx:List (Nat × (List AV→Option AV))
 /-- calls of function values that only read -/
 ro:List (Nat × Nat):=[]
 /-- reads that come ahead of a store to a box that the region itself makes,in whichever order: function,slot read into,slot of the box -/
 away:List (Nat × Nat × Nat):=[]
 /-- calls that hand their arguments over: function,slot of the answer -/
 give:List (Nat × Nat):=[]
 /-- contracts of functions to which arguments are handed over -/
 octx:List (Nat × (List AV→Option AV)):=[]
 /-- functions that answer a pointer to a box of their own: the box's cells -/
 bctx:List (Nat × (List AV→Option (List C))):=[]
 /-- functions that turn the box that their first argument points to: from its cells and the other arguments to the answer and the new cells -/
 pctx:List (Nat × (List C→List AV→Option (AV × List C))):=[]
 /-- such functions may be called with boxes of this frame -/
 near:Bool:=false
 /-- functions that are entered by handing over alone,and take from boxes of the frame before -/
 deep:List Nat:=[]

def isRo (g:Cfg) (f:Nat) (dst:Option Nat):Bool:=match dst with
 | some t=>g.ro.contains (f,t)
 | none=>false

def isGive (g:Cfg) (f:Nat) (dst:Option Nat):Bool:=match dst with
 | some t=>g.give.contains (f,t)
 | none=>false

def Cfg.leaves (g:Cfg) (f:Nat):Option Nat→Bool
 | some t=>g.take.contains (f,1000000+t)
 | none=>false

abbrev farM:Nat:=4000000
def awayB (g:Cfg) (d f:Nat) (dst:Option Nat) (k:Key):Bool:=match dst with
 | some t=>g.away.any fun x=>x.1 == f && (x.2.1 == t && (decide (k=(d,x.2.2)) || (x.2.2 == farM && decide (k.1≠d∨adoptK≤k.2))))
 | none=>false
def lateB (g:Cfg) (d f:Nat) (a:Operand) (k:Key):Bool:=match a with
 | .tmp b=>g.away.any fun x=>x.1 == f && (x.2.2 == b && decide (k≠(d,b)))
 | _=>false

def Cfg.tk (g:Cfg) (f:Nat) (dst:Option Nat):Bool :=
 match dst with
 | some t=>g.take.contains (f,t)
 | none=>false

def lookK {β:Type} (k:Nat × Nat):List ((Nat × Nat) × β)→Option β
 | []=>none
 | (k',b) :: r=>if k'=k then some b else lookK k r

def lookN {β:Type} (k:Nat):List (Nat × β)→Option β
 | []=>none
 | (k',b) :: r=>if k'=k then some b else lookN k r

def C.kill (p:Key→Bool):C→C
 | .ptr k off=>if p k then .dead else .ptr k off
 | .fn f caps=>if caps.any (fun c=>p c.1) then .dead else .fn f caps
 | .bs k n sz=>if p k then .dead else .bs k n sz
 | c=>c

def AV.kill (p:Key→Bool):AV→AV
 | .one c=>.one (c.kill p)
 | .ag cs=>.ag (cs.map (C.kill p))
 | .tu vs=>.tu (vs.map fun (b,cs)=>(b,cs.map (C.kill p)))

def memKill (p:Key→Bool) (m:Key→Option (List C)):Key→Option (List C):=fun k =>
 if p k then none else (m k).map (List.map (C.kill p))

def seg {α:Type} (cs:List α) (off size:Nat):Option (List α) :=
 if off+size≤cs.length then some ((cs.drop off).take size) else none

def mkAV (agg:Bool) (cs:List C):Option AV :=
 if agg then some (.ag cs) else match cs with
 | [c]=>some (.one c)
 | _=>none

def opE (g:Cfg) (d f:Nat) (o:Oper) (σ:St):Option (AV × St) :=
 let tk:=g.tk f o.dst
 let rd (x:Operand):AV × St:=if tk then (opnd σ.env x,{ σ with env:=kil σ.env x }) else ((opnd σ.env x).copy,σ)
 match o.op with
 | .move x=>some (rd x)
 | .assign x=>some (opnd σ.env x,{ σ with env:=kil σ.env x })
 | .pick c a b=>do
  let c ← toBool (opnd σ.env c)
  some ((opnd σ.env (if c then a else b)).copy,σ)
 | .extract x i =>
  match x with
  | .tmp t =>
   match σ.env t with
   | .tu vs=>do
    let (ag,cs) ← vs[i]?
    let v ← mkAV ag cs
    some (v,{ σ with env:=upd σ.env t (.tu (vs.set i (ag,cs.map fun _=>.dead))) })
   | _=>none
  | _=>none
 | .alloc e=>do
  let i ← ti g.P e
  let t ← o.dst
  if (σ.mem (d,t)).isSome || t == deepK then none else
  some (.one (.ptr (d,t) 0),{ σ with mem:=upd σ.mem (d,t) (some (i.zero.map C.ofValue)) })
 | .box e x=>do
  let _ ← ti g.P e
  let t ← o.dst
  let cs ← (opnd σ.env x).cells
  if (σ.mem (d,t)).isSome || t == deepK then none else
  some (.one (.ptr (d,t) 0),{ env:=kil σ.env x,mem:=upd σ.mem (d,t) (some cs) })
 | .load t a=>do
  let i ← ti g.P t
  match opnd σ.env a with
  | .one (.ptr k off)=>do
   let cs ← σ.mem k
   let sg ← seg cs off i.size
   if tk then
    if (k.1≠d∧¬ (k.1+1=d∧(σ.mem (d,deepK)).isSome=true))∨(lateB g d f a k=true∨awayB g d f o.dst k=true) then none else
    let v ← mkAV i.agg sg
    some (v,{ σ with mem:=upd σ.mem k (some (splice cs off (sg.map fun c=>if g.leaves f o.dst then c.copy else .dead))) })
   else
    if sg.all (fun c=>!c.isDead) && !awayB g d f o.dst k then do
     let v ← mkAV i.agg (sg.map C.copy)
     some (v,σ)
    else none
  | .one (.ep m cs pos)=>do
   let sg ← seg cs pos i.size
   let v ← mkAV i.agg (sg.map (C.ofD m))
   some (v,σ)
  | _=>none
 | .store t a x=>do
  let i ← ti g.P t
  match opnd σ.env a with
  | .one (.ptr k off)=>do
   let cs ← σ.mem k
   let new ← (opnd σ.env x).cells
   if new.length=i.size∧off+i.size≤cs.length∧new.all (fun c=>!c.isDead)∧0 < i.size∧lateB g d f a k=false then
    some (.dead,{ env:=kil σ.env x,mem:=upd σ.mem k (some (splice cs off new)) })
   else none
  | _=>none
 | .nilCheck x =>
  match opnd σ.env x with
  | .one (.ptr k off)=>some (.one (.ptr k off),σ)
  | .one (.ep m cs pos)=>some (.one (.ep m cs pos),σ)
  | _=>none
 | .fieldAddr s x fi=>do
  let i ← ti g.P s
  let fd ← i.flds[fi]?
  let fi ← ti g.P fd.2
  if fi.size=0 then none else
  match opnd σ.env x with
  | .one (.ptr k off)=>some (.one (.ptr k (off+fd.1)),σ)
  | .one (.ep m cs pos)=>some (.one (.ep m cs (pos+fd.1)),σ)
  | _=>none
 | .field s x fi=>do
  let i ← ti g.P s
  let fd ← i.flds[fi]?
  let fi ← ti g.P fd.2
  match opnd σ.env x with
  | .ag cs=>do
   let sg ← seg cs fd.1 fi.size
   let v ← mkAV fi.agg (sg.map C.copy)
   some (v,σ)
  | _=>none
 | .indexAddr t x ix=>do
  let i ← ti g.P t
  let e ← i.elem
  let ei ← ti g.P e
  let n ← toInt (opnd σ.env ix)
  match opnd σ.env x with
  | .one (.l m len cs) =>
   if 0≤n∧n < len then some (.one (.ep m.copy.elem cs (n.toNat * ei.size)),σ) else none
  | .one (.bs k len sz) =>
   if 0≤n∧n < len∧sz=ei.size then some (.one (.ptr k (n.toNat * ei.size)),σ) else none
  | _=>none
 | .build t parts=>do
  let i ← ti g.P t
  if !nodup (tmpsOf (parts.toList.map (·.2))) then none else
  let ps ← parts.toList.mapM fun p=>(opnd σ.env p.2).cells.map fun cs=>(p.1,cs)
  if i.flds.isEmpty then none else
  let pl ← i.flds.mapM fun fd=>(ti g.P fd.2).map fun fi=>(fd.1,fi.size)
  let cs ← fillC (fun j=>pl[j]?) (i.zero.map C.ofValue) ps
  some (.ag cs,{ σ with env:=parts.toList.foldl (fun e p=>kil e p.2) σ.env })
 | .buildSlice t len parts=>do
  let i ← ti g.P t
  let e ← i.elem
  let ei ← ti g.P e
  if len * ei.size > 16777216∨ei.size=0 then none else
  let zero:=ei.zero.map C.ofValue
  if zero.length≠ei.size then none else
  if !nodup (tmpsOf (parts.toList.map (·.2))) then none else
  let ps ← parts.toList.mapM fun p=>(opnd σ.env p.2).cells.map fun cs=>(p.1,cs)
  let cs ← fillC (fun j=>some (j * ei.size,ei.size)) ((List.replicate len zero).flatten) ps
  let m ← modeOf cs
  let ds ← cs.mapM C.toD
  some (.one (.l (if g.tk f o.dst then .shr else m) len ds),{ σ with env:=parts.toList.foldl (fun e p=>kil e p.2) σ.env })
 | .slice t x lo hi none=>do
  match opnd σ.env x with
  | .one (.l m n cs)=>do
   let i ← ti g.P t
   let e ← i.elem
   let ei ← ti g.P e
   let l ← loOf lo σ.env
   let h ← hiOf hi σ.env n
   if 0≤l∧l≤h∧h≤n∧cs.length=n * ei.size then
    some (.one (.l m.copy (h - l).toNat ((cs.drop (l.toNat * ei.size)).take ((h - l).toNat * ei.size))),σ)
   else none
  | _=>do
   let v ← scalarOp g.P σ.env o
   some (.one (.s v),σ)
 | .lookup t x k false =>
  match g.P.underlying t with
  | some (.map kt _) =>
   match g.P.underlying kt with
   | some .string =>
    (lookAV (opnd σ.env x) (opnd σ.env k)).map fun nc=>(.one (.l .shr nc.1 nc.2),σ)
   | _=>none
  | _=>none
 | .makeFunc (.func k) first caps =>
  if first.size=0 then do
   let cs ← caps.toList.mapM fun x=>match opnd σ.env x with | .one (.ptr k off)=>some (k,off) | _=>none
   some (.one (.fn k cs),σ)
  else none
 | .makeSlice t l c=>do
  let i ← ti g.P t
  let e ← i.elem
  let ei ← ti g.P e
  let n ← toInt (opnd σ.env l)
  let cp ← toInt (opnd σ.env c)
  let zero:=ei.zero.map C.ofValue
  if zero.length≠ei.size∨ei.size=0 then none else
  if 0≤n∧cp=n∧n * (ei.bytes+1)≤maxBytes then do
   if tk then
    let t ← o.dst
    if (σ.mem (d,t)).isSome || t == deepK then none else
    some (.one (.bs (d,t) n.toNat ei.size),{ σ with mem:=upd σ.mem (d,t) (some ((List.replicate n.toNat zero).flatten)) })
   else
   let zd ← zero.mapM C.toD
   some (.one (.l .own n.toNat ((List.replicate n.toNat zd).flatten)),σ)
  else none
 | .call { callee:=.builtin .len,args,argTypes } =>
  match args.toList.map (opnd σ.env) with
  | [.one (.l _ n _)]=>do
   let t ← argTypes[0]?
   let i ← ti g.P t
   let _ ← i.elem
   some (.one (.s (.int .i64 n)),σ)
  | [.one (.bs _ n _)]=>do
   let t ← argTypes[0]?
   let i ← ti g.P t
   let _ ← i.elem
   some (.one (.s (.int .i64 n)),σ)
  | _=>do
   let v ← scalarOp g.P σ.env o
   some (.one (.s v),σ)
 | .call { callee:=.builtin .append,args,argTypes } =>
  match args.toList with
  | [x,y]=>do
   let t ← argTypes[0]?
   let i ← ti g.P t
   let e ← i.elem
   let ei ← ti g.P e
   if argTypes[1]?≠some t∨argTypes.size≠2∨!nodup (tmpsOf [x,y])∨o.dst=none then none else
   match opnd σ.env x,opnd σ.env y with
   | .one (.l m n cs),.one (.l my ny csy)=>do
    if ¬ (m=.own∨m=.top) then none else
    if ¬ (cs.length=n * ei.size∧csy.length=ny * ei.size∧0 < ei.size∧ei.zero.length=ei.size∧(n+ny) * (ei.bytes+1)≤maxBytes) then none else
    let m' ← appMode m my cs csy
    some (.one (.l m' (n+ny) (cs ++ csy)),{ σ with env:=kil (kil σ.env x) y })
   | _,_=>none
  | _=>none
 | .call { callee:=.builtin _,.. } | .binOp .. | .unOp .. | .convert .. | .index ..=>do
  let v ← scalarOp g.P σ.env o
  some (.one (.s v),σ)
 | _=>none

def putD (env:Nat→AV) (dst:Option Nat) (v:AV):Nat→AV :=
 match dst with
 | some t=>upd env t v
 | none=>env

inductive Out where
 | norm (σ:St)
 | exit (id:Nat) (σ:St)
 | ret (σ:St)

def Out.then (o:Out) (k:St→Option Out):Option Out:=match o with
 | .norm σ=>k σ
 | o=>some o
def Out.blk (o:Out) (id:Nat):Out:=match o with
 | .exit id' σ=>if id'=id then .norm σ else .exit id' σ
 | o=>o
def Out.done:Out→Option St
 | .norm σ=>some σ
 | .ret σ=>some σ
 | .exit ..=>none

def C.lend:C→Option C
 | .s v=>some (.s v)
 | .l _ n cs=>some (.l .shr n cs)
 | _=>none

def AV.lend:AV→Option AV
 | .one c=>c.lend.map .one
 | .ag cs=>(cs.mapM C.lend).map .ag
 | .tu _=>none

def C.own?:C→Bool
 | .s _ | .l .own _ _=>true
 | _=>false
def AV.own?:AV→Bool
 | .one c=>c.own?
 | .ag cs=>cs.all C.own?
 | .tu vs=>vs.all fun p=>p.2.all C.own?
def C.shr?:C→Bool
 | .s _ | .l .shr _ _=>true
 | _=>false
def AV.shr?:AV→Bool
 | .one c=>c.shr?
 | .ag cs=>cs.all C.shr?
 | .tu _=>false
def C.data?:C→Bool
 | .s _ | .l .own _ _ | .l .top _ _ | .l .shr _ _=>true
 | _=>false
def AV.data?:AV→Bool
 | .one c=>c.data?
 | .ag cs=>cs.all C.data?
 | .tu vs=>vs.all fun p=>p.2.all C.data?

def calleeOf (env:Nat→AV) (x:Operand):Option (Nat × List AV):=match opnd env x with
 | .one (.fn f caps)=>some (f,caps.map fun c=>.one (.ptr c.1 c.2))
 | _=>none

inductive RSrc where
 | sl (t:Nat)
 | bx (k:Key) (off size:Nat) (agg:Bool)

def rsrc (P:Program) (env:Nat→AV):ResultVar→Option RSrc
 | .tmp t=>some (.sl t)
 | .cell t ty=>(ti P ty).bind fun i=>match env t with
  | .one (.ptr k off)=>some (.bx k off i.size i.agg)
  | _=>none

def RSrc.val (σ:St):RSrc→Option AV
 | .sl t=>some (σ.env t)
 | .bx k off size agg=>(σ.mem k).bind fun cs=>(seg cs off size).bind (mkAV agg)

def tupPart (x:AV):Option (Bool × List C):=match x with
 | .one c=>some (false,[c])
 | .ag cs=>some (true,cs)
 | .tu _=>none

def nodupR (l:List RSrc):Bool :=
 nodup (l.filterMap fun | .sl t=>some t | _=>none) && nodup (l.filterMap fun | .bx k _ _ _=>some k.2 | _=>none)

def retVal (P:Program) (d:Nat) (fn:Func) (σ:St):Option AV :=
 (fn.results.toList.mapM (rsrc P σ.env)).bind fun rs =>
  if !(rs.all fun | .bx k _ _ _=>k.1 == d | _=>true) then none else
  match rs with
  | [r]=>RSrc.val σ r
  | rs=>if nodupR rs then (rs.mapM fun r=>(RSrc.val σ r).bind tupPart).map .tu else none

def rid:Code→Nat
 | .region id _ _=>id
 | .seq a _=>rid a
 | .block _ a=>rid a
 | .scope a=>rid a
 | .loop a=>rid a
 | _=>0

def restrict (d:Nat) (σ:St) (k:List Nat × List Nat):St :=
 {env:=fun t=>if t∈k.1 then (σ.env t).kill (fun x=>x.1 == d && k.2.contains x.2) else .dead
  mem:=memKill (fun x=>x.1 == d && k.2.contains x.2) σ.mem }

def Out.loopThen (d:Nat) (k:Kp) (o:Out) (next:St→Option Out):Option Out:=match o with
 | .norm σ=>next σ
 | .exit id σ=>some (.exit id (restrict d σ (k.ex,k.bx)))
 | .ret σ=>some (.ret (restrict d σ (k.rt,k.bx)))

def C.killB:C→C
 | .l .bor _ _=>.dead
 | .ep _ _ _=>.dead
 | c=>c

def AV.killB:AV→AV
 | .one c=>.one c.killB
 | .ag cs=>.ag (cs.map C.killB)
 | .tu vs=>.tu (vs.map fun (b,cs)=>(b,cs.map C.killB))

def St.killB (σ:St):St:={ env:=fun t=>(σ.env t).killB,mem:=fun k=>(σ.mem k).map (List.map C.killB) }
def St.killK (σ:St) (k:Key):St:={ env:=fun t=>(σ.env t).kill (· == k),mem:=memKill (· == k) σ.mem }

inductive Loc where
 | env (t i:Nat)
 | mem (k:Key) (off:Nat)

def Plc.loc (σ:St):Plc→Option Loc
 | .sl t i=>some (.env t i)
 | .at t j=>match σ.env t with
  | .one (.ptr k off)=>some (.mem k (off+j))
  | _=>none
 | .ix tl ti sz off=>match σ.env tl,toInt (σ.env ti) with
  | .one (.bs k n _),some i=>if 0≤i∧i < n then some (.mem k (i.toNat * sz+off)) else none
  | _,_=>none
 | .mem k off=>some (.mem k off)
 | .ixk k ti sz off=>(toInt (σ.env ti)).map fun i=>.mem k (i.toNat * sz+off)

def Loc.get (σ:St):Loc→Option C
 | .env t i=>match σ.env t with
  | .one c=>if i=0 then some c else none
  | .ag cs=>cs[i]?
  | .tu _=>none
 | .mem k off=>(σ.mem k).bind fun cs=>cs[off]?

def Loc.set (σ:St) (c:C):Loc→St
 | .env t i=>match σ.env t with
  | .one _=>{ σ with env:=upd σ.env t (.one c) }
  | .ag cs=>{ σ with env:=upd σ.env t (.ag (cs.set i c)) }
  | .tu _=>σ
 | .mem k off=>match σ.mem k with
  | some cs=>{ σ with mem:=upd σ.mem k (some (cs.set off c)) }
  | none=>σ

def Loc.own? (d:Nat):Loc→Bool
 | .env _ _=>true
 | .mem k _=>k.1 == d

def Loc.notK (k:Key):Loc→Bool
 | .env _ _=>true
 | .mem k' _=>k' != k

def dataAll (cs:List C):Bool:=cs.all C.data?
def ghoB (d:Nat) (σ:St):Gho→Option St
 | .thaw p key sz=>(p.loc σ).bind fun l=>(l.get σ).bind fun c=>match c with
  | .l m n cs =>
   if (m=.own∨m=.top)∧l.own? d=true∧(σ.mem (d,key)).isSome=false∧key≠deepK∧cs.length=n * sz∧0 < sz then
    let σ1:=(l.set σ.killB (.bs (d,key) n sz))
    some { σ1 with mem:=upd σ1.mem (d,key) (some (cs.map (C.ofD m.elem))) }
   else none
  | .bs _ _ _=>some σ
  | _=>none
 | .frz p=>(p.loc σ).bind fun l=>(l.get σ).bind fun c=>match c with
  | .bs k n sz=>(σ.mem k).bind fun cs =>
   let ks:=cs.take (n * sz)
   (modeOf ks).bind fun m=>(ks.mapM C.toD).bind fun ds =>
    if k.1=d∧ks.length=n * sz∧0 < sz∧l.notK k=true then some (l.set (σ.killK k) (.l m n ds)) else none
  | _=>some σ
 | .die p sz=>(p.loc σ).bind fun l=>match l with
  | .mem k off=>(σ.mem k).bind fun cs=>if off+sz≤cs.length then some { σ with mem:=upd σ.mem k (some (splice cs off (List.replicate sz .dead))) } else none
  | _=>none
 | .calm=>some σ.killB
 | .drop q=>some { env:=fun t=>(σ.env t).kill (fun k=>decide (d≤k.1) && q k),mem:=memKill (fun k=>decide (d≤k.1) && q k) σ.mem }
 | .many _=>none
 | .share t=>if (σ.env t).data? then (σ.env t).lend.map fun v=>{ σ with env:=upd σ.env t v } else none
 | .shareM k=>(σ.mem k).bind fun cs=>if k.1=d∧dataAll cs=true then (cs.mapM C.lend).map fun cs'=>{ σ with mem:=upd σ.mem k (some cs') } else none

def ghoLB (d:Nat):List Gho→St→Option St
 | [],σ=>some σ
 | x :: r,σ=>(ghoB d σ x).bind (ghoLB d r)

def gho1 (d:Nat) (σ:St):Gho→Option St
 | .many F=>ghoLB d (F σ) σ
 | .thaw p key sz=>ghoB d σ (.thaw p key sz)
 | .frz p=>ghoB d σ (.frz p)
 | .die p sz=>ghoB d σ (.die p sz)
 | .calm=>ghoB d σ .calm
 | .drop q=>ghoB d σ (.drop q)
 | .share t=>ghoB d σ (.share t)
 | .shareM k=>ghoB d σ (.shareM k)

def ghoL (d:Nat):List Gho→St→Option St
 | [],σ=>some σ
 | x :: r,σ=>(gho1 d σ x).bind (ghoL d r)

def ghoAt (g:Cfg) (d f id:Nat) (σ:St):Option St:=match lookK (f,id) g.gho with
 | none=>some σ
 | some l=>ghoL d l σ

def atEnd:Nat:=1000000
def behind (id:Nat):Nat:=id+2000000

inductive Cls where | p | l | a | m | t
 deriving DecidableEq

def clsOf (g:Cfg) (f:Nat) (o:Oper):Cls :=
 match o.op with
 | .load ..=>if g.tk f o.dst then .t else .l
 | .alloc _ | .box _ _=>.a
 | .makeSlice ..=>if g.tk f o.dst then .a else .p
 | .store ..=>.m
 | .call { callee:=.value (.func k),.. }=>if (lookN k g.ctx).isSome then .p else if isRo g f o.dst then .l else .m
 | .call { callee:=.value _,.. }=>if isRo g f o.dst then .l else .m
 | _=>.p

def roOp (g:Cfg) (f:Nat) (o:Oper):Bool:=!isGive g f o.dst && match o.op with
 | .call { callee:=.value (.func k),.. }=>(lookN k g.ctx).isSome
 | .call { callee:=.value _,.. }=>false
 | _=>decide (clsOf g f o=.p) || decide (clsOf g f o=.l)
def roCode (g:Cfg) (f:Nat):Code→Bool
 | .skip | .label _ | .exit _ | .ret=>true
 | .region id ops _=>ops.toList.all (roOp g f) && ((lookK (f,id) g.gho).isNone && (lookK (f,behind id) g.gho).isNone)
 | .seq a b=>roCode g f a && roCode g f b
 | .cond _ a b=>roCode g f a && roCode g f b
 | .block _ a=>roCode g f a
 | _=>false
def roFn (g:Cfg) (k:Nat):Bool:=((lookN k g.ctx).isNone && (lookN k g.pctx).isNone) && ((lookK (k,atEnd) g.gho).isNone && (match g.P.funcs[k]? with
 | some fn=>(match fn.body with | some c=>roCode g k c | none=>false) && (match fn.results.toList with | [.tmp _]=>true | _=>false)
 | none=>false))

def clsOK:Cls→Cls→Bool
 | .p,_=>true
 | _,.p=>true
 | .l,.l=>true
 | .l,.a=>true
 | .t,.l=>true
 | .a,.a=>true
 | _,_=>false

def readsOf (ops:Array Oper) (o:Oper):List Nat :=
 (o.op.operands.toList.filterMap fun | .tmp t=>some t | _=>none) ++
 (match o.guard with | some (j,_)=>((ops[j]?).bind (·.dst)).toList | none=>[])

def writesOf (g:Cfg) (f:Nat) (o:Oper):List Nat :=
 o.dst.toList ++
 (let ts:=o.op.operands.toList.filterMap fun | .tmp t=>some t | _=>none
  match o.op with
  | .move _=>if g.tk f o.dst then ts else []
  | .assign _ | .extract .. | .box .. | .store .. | .build .. | .buildSlice ..=>ts
  | .call { callee:=.builtin .append,.. }=>ts
  | _=>[])

def disj (a b:List Nat):Bool:=a.all fun x=>!b.contains x

def awayPair (g:Cfg) (f:Nat) (x y:Oper):Bool:=match x.op,y.op,x.dst,x.guard,y.guard with
 | .load _ _,.store _ (.tmp b) _,some t,none,none=>!g.tk f (some t) && g.away.contains (f,t,b)
 | .load _ _,.load _ (.tmp b),some t,none,none=>!g.tk f (some t) && (g.tk f y.dst && g.away.contains (f,t,b))
 | _,_,_,_,_=>false

def posOf (t:Nat):List Operand→Nat→Option Nat
 | [],_=>none
 | .tmp u :: r,i=>if u=t then some i else posOf t r (i+1)
 | _ :: r,i=>posOf t r (i+1)
def givePair (g:Cfg) (f:Nat) (x y:Oper):Bool:=match x.op,y.op,x.dst,y.dst,x.guard,y.guard with
 | .call { callee:=.value (.func k),args,.. },.alloc _,some a,some b,none,none=>isGive g f (some a) && ((lookN k g.octx).isSome && (a != b && (posOf b args.toList 0).isNone))
 | _,_,_,_,_,_=>false
def farPair (g:Cfg) (f:Nat) (x y:Oper):Bool:=match x.op,y.op,x.dst,x.guard,y.guard with
 | .load _ _,.call { callee:=.value (.func k),.. },some t,none,none=>!g.tk f (some t) && (g.away.contains (f,t,farM) && ((lookN k g.ctx).isNone && ((lookN k g.pctx).isSome && (!isRo g f y.dst && !g.near))))
 | _,_,_,_,_=>false
def farTake (g:Cfg) (f:Nat) (x y:Oper):Bool:=match x.op,y.op,x.dst,x.guard,y.guard with
 | .load _ _,.call { callee:=.value (.func k),.. },some t,none,none=>g.tk f (some t) && (g.away.contains (f,t,farM) && ((lookN k g.ctx).isNone && ((lookN k g.pctx).isSome && (!isRo g f y.dst && !g.near))))
 | _,_,_,_,_=>false
def extPair (x y:Oper):Bool:=match x.op,y.op,x.dst,y.dst,x.guard,y.guard with
 | .extract (.tmp t) i,.extract (.tmp t') j,some a,some b,none,none=>t == t' && (i != j && (a != b && (a != t && b != t)))
 | _,_,_,_,_,_=>false

def comm (g:Cfg) (f:Nat) (ops:Array Oper) (x y:Oper):Bool :=
 (disj (writesOf g f x) (readsOf ops y) && disj (writesOf g f x) (writesOf g f y) && disj (readsOf ops x) (writesOf g f y) && (clsOK (clsOf g f x) (clsOf g f y) || (awayPair g f x y || (farPair g f x y || (farPair g f y x || farTake g f x y)))) && (!isGive g f x.dst && !isGive g f y.dst)) || (extPair x y || givePair g f x y)

def bef (ops:Array Oper):Nat→Nat→Nat→Bool
 | 0,_,_=>false
 | n+1,j,i=>match ops[i]? with
  | some y=>y.after.any fun e=>Region.binds .any e && (e.on == j || bef ops n j e.on)
  | none=>false

def regionOK (g:Cfg) (f:Nat) (ops:Array Oper):Bool :=
 (List.range ops.size).all fun i=>match ops[i]? with
  | some y=>y.after.all (fun e=>!Region.binds .any e || e.on < i) && (List.range i).all fun j=>match ops[j]? with
   | some x=>y.after.any (fun e=>e.on == j && Region.binds .any e) || (comm g f ops x y || bef ops ops.size j i)
   | none=>true
  | none=>true

def codeOK (g:Cfg) (f N:Nat):Code→Bool
 | .region _ ops draw=>ops.all (fun o=>o.dst.all (· < N) && !(o.op matches .select ..)) && (!draw || (g.P.follows .mixedOrders && regionOK g f ops))
 | .seq a b=>codeOK g f N a && codeOK g f N b
 | .cond _ a b=>codeOK g f N a && codeOK g f N b
 | .block _ a=>codeOK g f N a
 | .loop a=>codeOK g f N a
 | .scope a=>codeOK g f N a
 | _=>true

def wantV (b:Bool):AV→Option Bool
 | .tu []=>some false
 | x=>(toBool x).bind fun c=>some (c == b)
def wants (ops:Array Oper) (env:Nat→AV) (o:Oper):Option Bool:=match o.guard with
 | none=>some true
 | some (j,b)=>((ops[j]?).bind (·.dst)).bind fun t=>wantV b (env t)

def callEnd (g:Cfg) (f:Nat) (o:Oper) (σ:St) (k:Nat) (rm:AV × (Key→Option (List C))):Option St :=
 if isRo g f o.dst then (if roFn g k then some { env:=putD σ.env o.dst rm.1,mem:=σ.mem } else none) else some { env:=putD σ.env o.dst rm.1,mem:=rm.2 }

def stepW (call:Nat→List AV→(Key→Option (List C))→Option (AV × (Key→Option (List C)))) (g:Cfg) (d f:Nat) (o:Oper) (σ:St):Option St :=
 match o.op with
 | .call { callee:=.value x,args,.. }=>(calleeOf σ.env x).bind fun kc =>
  (call kc.1 (args.toList.map (fun y=>(opnd σ.env y).copy) ++ kc.2) σ.mem).bind fun rm=>callEnd g f o σ kc.1 rm
 | _=>(opE g d f o σ).bind fun vs=>some { vs.2 with env:=putD vs.2.env o.dst vs.1 }

def nodupA:List Operand→Bool
 | []=>true
 | .tmp u :: r=>!(posOf u r 0).isSome && nodupA r
 | .const _ :: r=>nodupA r
 | _ :: _=>false
def gaveEnv (args:List Operand) (env:Nat→AV):Nat→AV:=fun t=>if (posOf t args 0).isSome then .dead else (env t).killB
def bxCall (call:Nat→List AV→(Key→Option (List C))→Option (AV × (Key→Option (List C)))) (g:Cfg) (d:Nat) (dst:Option Nat) (k:Nat) (az_:List AV) (mem:Key→Option (List C)):Option (AV × (Key→Option (List C))) :=
 match lookN k g.bctx,dst with
 | none,_=>if (lookN k g.pctx).isSome then none else call k az_ (if g.deep.contains k then upd mem (d+1,deepK) (some []) else mem)
 | some F,some t=>if (mem (d,adoptK+t)).isSome || !az_.all AV.shr? then none else (F az_).map fun cs=>(.one (.ptr (d,adoptK+t) 0),upd mem (d,adoptK+t) (some cs))
 | some _,none=>none
def giveStep (call:Nat→List AV→(Key→Option (List C))→Option (AV × (Key→Option (List C)))) (g:Cfg) (d:Nat) (args:List Operand) (dst:Option Nat) (σ:St):Option (Nat × List AV)→Option St
 | some (k,caps) =>
  if nodupA args then
   (match lookN k g.octx with
    | some F=>if caps.isEmpty then (F (args.map fun y=>(opnd σ.env y).killB)).map fun r=>(r,σ.killB.mem) else none
    | none=>if (lookN k g.ctx).isSome then none else bxCall call g d dst k ((args.map fun y=>(opnd σ.env y).killB) ++ caps) σ.killB.mem).map fun (rm:AV × (Key→Option (List C)))=>{ env:=putD (gaveEnv args σ.env) dst rm.1,mem:=rm.2 }
  else none
 | _=>none
def stepX (call:Nat→List AV→(Key→Option (List C))→Option (AV × (Key→Option (List C)))) (g:Cfg) (d f:Nat) (o:Oper) (σ:St):Option St :=
 match o.op with
 | .call { callee:=.value x,args,.. }=>if isGive g f o.dst then giveStep call g d args.toList o.dst σ (calleeOf σ.env x) else stepW call g d f o σ
 | _=>stepW call g d f o σ

theorem zha {call:Nat→List AV→(Key→Option (List C))→Option (AV × (Key→Option (List C)))} {g:Cfg} {d f:Nat} {o:Oper} {σ:St} (h:isGive g f o.dst=false):stepX call g d f o σ=stepW call g d f o σ:=by
 unfold stepX
 split
 ·rw [h]
  rfl
 ·rfl
def pxCall (near:Bool) (d:Nat) (args:List AV) (mem:Key→Option (List C)):Option (List C→List AV→Option (AV × List C))→Option (AV × (Key→Option (List C)))
 | some F=>match args with
  | .one (.ptr K 0) :: az_=>if az_.all AV.shr? && (near || decide (K.1≠d∨adoptK≤K.2)) then (mem K).bind fun cs=>(F cs az_).bind fun rc=>some (rc.1,upd mem K (some rc.2)) else none
  | _=>none
 | none=>none
def fnOK (g:Cfg) (f:Nat) (fn:Func):Bool :=
 (match fn.body with | some c => codeOK g f fn.ntmps c | none => false) && fn.name != "runtime.NumGoroutine" && (decide (fn.params.size ≤ fn.ntmps) && (lookN f g.pctx).isNone)

mutual
def callN (g:Cfg):Nat→(d:Nat)→(f:Nat)→List AV→(Key→Option (List C))→Option (AV × (Key→Option (List C)))
 | 0,_,_,_,_=>none
 | n+1,d,f,args,mem =>
  match lookN f g.ctx with
  | some F=>(args.mapM AV.lend).bind fun la=>(F la).bind fun r=>if r.own? || (r.data? && args.all AV.shr?) then some (r,mem) else none
  | none =>
   match g.P.funcs[f]? with
   | some fn =>
    match fn.body with
    | some c =>
     if !fnOK g f fn || args.length > fn.ntmps then pxCall g.near d args mem (lookN f g.pctx) else
     (evN g n (d+1) f c { env:=fun t=>(args[t]?).getD .dead,mem }).bind fun out=>out.done.bind fun σ=>(ghoAt g (d+1) f atEnd σ).bind fun σ =>
      (retVal g.P (d+1) fn σ).bind fun r=>some (r.kill (fun k=>d < k.1),memKill (fun k=>d < k.1) σ.mem)
    | none=>none
   | none=>none
termination_by n=>(n,0)

def evOps (g:Cfg):Nat→(d f:Nat)→(ops:Array Oper)→List Oper→St→Option St
 | 0,_,_,_,_,_=>none
 | _+1,_,_,_,[],σ=>some σ
 | n+1,d,f,ops,o :: rest,σ=>(wants ops σ.env o).bind fun want =>
  (if want then stepX (callN g n d) g d f o σ else some { σ with env:=putD σ.env o.dst .skp }).bind fun σ'=>evOps g n d f ops rest σ'
termination_by n=>(n,0)

def evN (g:Cfg):Nat→(d f:Nat)→Code→St→Option Out
 | 0,_,_,_,_=>none
 | n+1,d,f,c,σ =>
  match c with
  | .skip=>some (.norm σ)
  | .label _=>some (.norm σ)
  | .region id ops _=>(ghoAt g d f id σ).bind fun σ=>(evOps g n d f ops ops.toList σ).bind fun σ=>(ghoAt g d f (behind id) σ).map .norm
  | .seq a b=>(evN g n d f a σ).bind fun o=>o.then fun σ'=>evN g n d f b σ'
  | .cond x a b=>(toBool (opnd σ.env x)).bind fun t=>if t then evN g n d f a σ else evN g n d f b σ
  | .block id a=>(evN g n d f a σ).bind fun o=>some (o.blk id)
  | .loop a=>(lookK (f,rid a) g.keep).bind fun k=>(evN g n d f a (restrict d σ (k.hd,k.bx))).bind fun o=>o.loopThen d k fun σ'=>evN g n d f (.loop a) σ'
  | .exit id=>some (.exit id σ)
  | .ret=>some (.ret σ)
  | .rangeFunc _ _ _ _=>none
  | .scope _=>none
  | .goto _=>none
  | .refuse _=>none
termination_by n=>(n,0)
end

end Go.Ev


namespace Go.Ev

def Le {α:Type} (x y:Option α):Prop:=∀ a,x=some a→y=some a
theorem Le.refl {α:Type} (x:Option α):Le x x:=fun _ h=>h
theorem Le.none {α:Type} (x:Option α):Le Option.none x:=fun _ h=>by cases h
theorem Le.bind {α β:Type} {x y:Option α} {f h:α→Option β} (hx:Le x y) (hf:∀ a,Le (f a) (h a)):Le (x.bind f) (y.bind h):=by
 intro b hb
 cases hx':x with
 | none=>rw [hx'] at hb;cases hb
 | some a=>rw [hx'] at hb;rw [hx a hx'];exact hf a b hb
theorem Le.map {α β:Type} {x y:Option α} {f:α→β} (hx:Le x y):Le (x.map f) (y.map f):=by
 intro b hb
 cases hx':x with
 | none=>rw [hx'] at hb;cases hb
 | some a=>rw [hx'] at hb;rw [hx a hx'];exact hb

theorem bxCall_le {c1 c2:Nat→List AV→(Key→Option (List C))→Option (AV × (Key→Option (List C)))} {g:Cfg} {d:Nat} {dst:Option Nat} (h:∀ k az_ m,Le (c1 k az_ m) (c2 k az_ m)) (k:Nat) (az_:List AV) (mem:Key→Option (List C)):Le (bxCall c1 g d dst k az_ mem) (bxCall c2 g d dst k az_ mem):=by
 unfold bxCall
 split
 ·split
  ·exact Le.refl _
  ·exact h _ _ _
 ·exact Le.refl _
 ·exact Le.refl _
theorem zpm {c1 c2:Nat→List AV→(Key→Option (List C))→Option (AV × (Key→Option (List C)))} {g:Cfg} {d f:Nat} {o:Oper} {σ:St} (h:∀ k az_ m,Le (c1 k az_ m) (c2 k az_ m)):Le (stepX c1 g d f o σ) (stepX c2 g d f o σ):=by
 have hW:Le (stepW c1 g d f o σ) (stepW c2 g d f o σ):=by
  unfold stepW
  split
  ·exact Le.bind (Le.refl _) fun kc=>Le.bind (h _ _ _) fun _=>Le.refl _
  ·exact Le.refl _
 unfold stepX
 split
 ·split
  ·unfold giveStep
   split
   ·split
    ·refine Le.map ?_
     split
     ·exact Le.refl _
     ·split
      ·exact Le.refl _
      ·exact bxCall_le h _ _ _
    ·exact Le.refl _
   ·exact Le.refl _
  ·exact hW
 ·exact hW

theorem zqf (g:Cfg):∀ n,(∀ d f args mem,Le (callN g n d f args mem) (callN g (n+1) d f args mem)) ∧
 (∀ d f ops l σ,Le (evOps g n d f ops l σ) (evOps g (n+1) d f ops l σ))∧(∀ d f c σ,Le (evN g n d f c σ) (evN g (n+1) d f c σ)):=by
 intro n
 induction n with
 | zero =>
  refine ⟨fun d f args mem=>?_,fun d f ops l σ=>?_,fun d f c σ=>?_⟩
  ·intro a h;rw [callN] at h;cases h
  ·intro a h;rw [evOps] at h;cases h
  ·intro a h;rw [evN] at h;cases h
 | succ n ih =>
  obtain ⟨ih1,ih2,ih3⟩:=ih
  refine ⟨fun d f args mem=>?_,fun d f ops l σ=>?_,fun d f c σ=>?_⟩
  ·rw [callN,callN]
   split
   ·exact Le.refl _
   ·split
    ·split
     ·split
      ·exact Le.refl _
      ·exact Le.bind (ih3 _ _ _ _) fun _=>Le.refl _
     ·exact Le.refl _
    ·exact Le.refl _
  ·cases l with
   | nil=>rw [evOps,evOps];exact Le.refl _
   | cons o rest =>
    rw [evOps,evOps]
    refine Le.bind (Le.refl _) fun want=>Le.bind ?_ fun σ'=>ih2 _ _ _ _ _
    split
    ·exact zpm fun _ _ _=>ih1 _ _ _ _
    ·exact Le.refl _
  ·cases c with
   | region id ops draw=>rw [evN,evN];exact Le.bind (Le.refl _) fun σ'=>Le.bind (ih2 _ _ _ _ _) fun _=>Le.refl _
   | seq a b =>
    rw [evN,evN]
    refine Le.bind (ih3 _ _ _ _) fun o=>?_
    cases o with
    | norm σ'=>exact ih3 _ _ _ _
    | exit id σ'=>exact Le.refl _
    | ret σ'=>exact Le.refl _
   | cond x a b =>
    rw [evN,evN]
    refine Le.bind (Le.refl _) fun t=>?_
    cases t with
    | true=>exact ih3 _ _ _ _
    | false=>exact ih3 _ _ _ _
   | block id a=>rw [evN,evN];exact Le.bind (ih3 _ _ _ _) fun o=>Le.refl _
   | loop a =>
    rw [evN,evN]
    refine Le.bind (Le.refl _) fun k=>Le.bind (ih3 _ _ _ _) fun o=>?_
    cases o with
    | norm σ'=>exact ih3 _ _ _ _
    | exit id σ'=>exact Le.refl _
    | ret σ'=>exact Le.refl _
   | _=>rw [evN,evN];exact Le.refl _

open Classical in
def lim {α:Type} (f:Nat→Option α):Option α :=
 if h:∃ n a,f n=some a then f (Classical.choose h) else none

def Mono {α:Type} (f:Nat→Option α):Prop:=∀ n,Le (f n) (f (n+1))
theorem Mono.le {α:Type} {f:Nat→Option α} (h:Mono f):∀ {m n:Nat},m≤n→Le (f m) (f n):=by
 intro m n hmn
 induction hmn with
 | refl=>exact Le.refl _
 | step _ ih=>exact fun a ha=>h _ a (ih a ha)

theorem zez {α:Type} {f:Nat→Option α} (h:Mono f) (a:α):lim f=some a ↔ ∃ n,f n=some a:=by
 unfold lim
 constructor
 ·intro hl
  split at hl
  ·exact ⟨_,hl⟩
  ·cases hl
 ·rintro ⟨n,hn⟩
  have hex:∃ n a,f n=some a:=⟨n,a,hn⟩
  rw [dif_pos hex]
  obtain ⟨b,hb⟩:=Classical.choose_spec hex
  rw [hb]
  rcases Nat.le_total n (Classical.choose hex) with hle | hle
  ·rw [h.le hle a hn] at hb;exact hb.symm
  ·have:=h.le hle b hb;rw [this] at hn;exact hn

theorem zju {α:Type} {f:Nat→Option α} (h:Mono f) {x:Option α} (hx:∀ a,(∃ n,f n=some a) ↔ x=some a):lim f=x:=by
 cases hl:lim f with
 | some a=>exact ((hx a).1 ((zez h a).1 hl)).symm
 | none =>
  cases hx':x with
  | none=>rfl
  | some a=>rw [(zez h a).2 ((hx a).2 hx')] at hl;cases hl

theorem zgk {α:Type} {f:Nat→Option α} {x:Option α} (h0:f 0=none) (h:∀ n,f (n+1)=x):lim f=x:=by
 have hm:Mono f:=fun n=>by
  cases n with
  | zero=>rw [h0];exact Le.none _
  | succ n=>rw [h,h];exact Le.refl _
 refine zju hm fun a=>⟨?_,fun ha=>⟨1,by rw [h,ha]⟩⟩
 rintro ⟨n,hn⟩
 cases n with
 | zero=>rw [h0] at hn;cases hn
 | succ n=>rw [← h n];exact hn

theorem zgq {α β:Type} {f:Nat→Option β} {p:Nat→Option α} {q:Nat→α→Option β} (hf:Mono f) (h0:f 0=none) (h:∀ n,f (n+1)=(p n).bind (q n))
 (hp:Mono p) (hq:∀ a,Mono fun n=>q n a):lim f=(lim p).bind fun a=>lim fun n=>q n a:=by
 refine zju hf fun b=>?_
 constructor
 ·rintro ⟨n,hn⟩
  cases n with
  | zero=>rw [h0] at hn;cases hn
  | succ n =>
   rw [h] at hn
   cases hpn:p n with
   | none=>rw [hpn] at hn;cases hn
   | some a =>
    rw [hpn] at hn
    rw [(zez hp a).2 ⟨n,hpn⟩]
    exact (zez (hq a) b).2 ⟨n,hn⟩
 ·intro hb
  cases hpl:lim p with
  | none=>rw [hpl] at hb;cases hb
  | some a =>
   rw [hpl] at hb
   obtain ⟨n,hn⟩:=(zez hp a).1 hpl
   obtain ⟨m,hm⟩:=(zez (hq a) b).1 hb
   refine ⟨max n m+1,?_⟩
   rw [h,hp.le (Nat.le_max_left n m) a hn]
   exact (hq a).le (Nat.le_max_right n m) b hm

theorem lim_shift {α:Type} {f p:Nat→Option α} (h0:f 0=none) (h:∀ n,f (n+1)=p n) (hp:Mono p):lim f=lim p:=by
 have hf:Mono f:=fun n=>by
  cases n with
  | zero=>rw [h0];exact Le.none _
  | succ n=>rw [h,h];exact hp n
 refine zju hf fun a=>?_
 rw [zez hp a]
 constructor
 ·rintro ⟨n,hn⟩
  cases n with
  | zero=>rw [h0] at hn;cases hn
  | succ n=>exact ⟨n,by rw [← h];exact hn⟩
 ·rintro ⟨n,hn⟩;exact ⟨n+1,by rw [h];exact hn⟩

theorem zbx {α:Type} (x:Option α):Mono fun _=>x:=fun _=>Le.refl _

abbrev Mem:=Key→Option (List C)

def callo (g:Cfg) (d f:Nat) (args:List AV) (mem:Mem):Option (AV × Mem):=lim fun n=>callN g n d f args mem
def opso (g:Cfg) (d f:Nat) (ops:Array Oper) (l:List Oper) (σ:St):Option St:=lim fun n=>evOps g n d f ops l σ
def evo (g:Cfg) (d f:Nat) (c:Code) (σ:St):Option Out:=lim fun n=>evN g n d f c σ

theorem zgj (g:Cfg) (d f:Nat) (args:List AV) (mem:Mem):Mono fun n=>callN g n d f args mem:=fun n=>(zqf g n).1 d f args mem
theorem zjb (g:Cfg) (d f:Nat) (ops:Array Oper) (l:List Oper) (σ:St):Mono fun n=>evOps g n d f ops l σ:=fun n=>(zqf g n).2.1 d f ops l σ
theorem zfl (g:Cfg) (d f:Nat) (c:Code) (σ:St):Mono fun n=>evN g n d f c σ:=fun n=>(zqf g n).2.2 d f c σ


variable (g:Cfg) (d f:Nat) (σ:St)

theorem evo_skip:evo g d f .skip σ=some (.norm σ):=zgk (by rw [evN]) fun n=>by rw [evN]
theorem evo_exit (id:Nat):evo g d f (.exit id) σ=some (.exit id σ):=zgk (by rw [evN]) fun n=>by rw [evN]
theorem evo_ret:evo g d f .ret σ=some (.ret σ):=zgk (by rw [evN]) fun n=>by rw [evN]
theorem evo_seq (a b:Code):evo g d f (.seq a b) σ=(evo g d f a σ).bind fun o=>o.then fun σ'=>evo g d f b σ':=by
 unfold evo
 rw [zgq (zfl g d f (.seq a b) σ) (by rw [evN]) (p:=fun n=>evN g n d f a σ) (q:=fun n o=>o.then fun σ'=>evN g n d f b σ')
  (fun n=>by rw [evN]) (zfl g d f a σ) (fun o=>by cases o with
   | norm σ'=>exact zfl g d f b σ'
   | exit id σ'=>exact zbx _
   | ret σ'=>exact zbx _)]
 congr 1
 funext o
 cases o with
 | norm σ'=>rfl
 | exit id σ'=>exact zju (zbx _) fun _=>⟨fun ⟨_,h⟩=>h,fun h=>⟨0,h⟩⟩
 | ret σ'=>exact zju (zbx _) fun _=>⟨fun ⟨_,h⟩=>h,fun h=>⟨0,h⟩⟩
theorem zat {α:Type} (x:Option α):lim (fun _=>x)=x:=zju (zbx _) fun _=>⟨fun ⟨_,h⟩=>h,fun h=>⟨0,h⟩⟩
theorem evo_block (id:Nat) (a:Code):evo g d f (.block id a) σ=(evo g d f a σ).bind fun o=>some (o.blk id):=by
 unfold evo
 rw [zgq (zfl g d f (.block id a) σ) (by rw [evN]) (p:=fun n=>evN g n d f a σ) (q:=fun _ o=>some (o.blk id))
  (fun n=>by rw [evN]) (zfl g d f a σ) (fun o=>zbx _)]
 congr 1
 funext o
 exact zat _
theorem evo_cond (x:Operand) (a b:Code):evo g d f (.cond x a b) σ=(toBool (opnd σ.env x)).bind fun t=>if t then evo g d f a σ else evo g d f b σ:=by
 unfold evo
 rw [zgq (zfl g d f (.cond x a b) σ) (by rw [evN]) (p:=fun _=>toBool (opnd σ.env x)) (q:=fun n t=>if t then evN g n d f a σ else evN g n d f b σ)
  (fun n=>by rw [evN]) (zbx _) (fun t=>by cases t <;> simp only [Bool.false_eq_true,if_true,if_false] <;> exact zfl g d f _ σ)]
 rw [zat]
 congr 1
 funext t
 cases t <;> rfl
theorem evo_loop (a:Code):evo g d f (.loop a) σ=(lookK (f,rid a) g.keep).bind fun k=>(evo g d f a (restrict d σ (k.hd,k.bx))).bind fun o=>o.loopThen d k fun σ'=>evo g d f (.loop a) σ':=by
 unfold evo
 have hm:∀ k,Mono fun n=>(evN g n d f a (restrict d σ (k.hd,k.bx))).bind fun o=>o.loopThen d k fun σ'=>evN g n d f (.loop a) σ':=fun k n =>
  Le.bind (zfl g d f a _ n) fun o=>by cases o with
   | norm σ'=>exact zfl g d f _ _ n
   | exit id σ'=>exact Le.refl _
   | ret σ'=>exact Le.refl _
 rw [zgq (zfl g d f (.loop a) σ) (by rw [evN]) (p:=fun _=>lookK (f,rid a) g.keep) (q:=fun n k=>(evN g n d f a (restrict d σ (k.hd,k.bx))).bind fun o=>o.loopThen d k fun σ'=>evN g n d f (.loop a) σ')
  (fun n=>by rw [evN]) (zbx _) hm]
 rw [zat]
 congr 1
 funext k
 rw [← lim_shift (f:=fun n=>match n with | 0=>none | n+1=>(evN g n d f a (restrict d σ (k.hd,k.bx))).bind fun o=>o.loopThen d k fun σ'=>evN g n d f (.loop a) σ') rfl (fun n=>rfl) (hm k)]
 rw [zgq (p:=fun n=>evN g n d f a (restrict d σ (k.hd,k.bx))) (q:=fun n o=>o.loopThen d k fun σ'=>evN g n d f (.loop a) σ') (fun n=>by cases n with | zero=>exact Le.none _ | succ n=>exact hm k n) rfl
  (fun n=>rfl) (zfl g d f a _) (fun o=>by cases o with
   | norm σ'=>exact zfl g d f _ σ'
   | exit id σ'=>exact zbx _
   | ret σ'=>exact zbx _)]
 congr 1
 funext o
 cases o with
 | norm σ'=>rfl
 | exit id σ'=>exact zat _
 | ret σ'=>exact zat _
theorem evo_region (id:Nat) (ops:Array Oper) (draw:Bool):evo g d f (.region id ops draw) σ=(ghoAt g d f id σ).bind fun σ=>(opso g d f ops ops.toList σ).bind fun σ=>(ghoAt g d f (behind id) σ).map .norm:=by
 unfold evo opso
 have hm:∀ σ',Mono fun n=>(evOps g n d f ops ops.toList σ').bind fun σ=>(ghoAt g d f (behind id) σ).map Out.norm:=fun σ' n=>Le.bind (zjb g d f ops _ σ' n) fun _=>Le.refl _
 rw [zgq (zfl g d f (.region id ops draw) σ) (by rw [evN]) (p:=fun _=>ghoAt g d f id σ) (q:=fun n σ'=>(evOps g n d f ops ops.toList σ').bind fun σ=>(ghoAt g d f (behind id) σ).map .norm)
  (fun n=>by rw [evN]) (zbx _) hm,zat]
 congr 1
 funext σ'
 refine zju (hm σ') fun a=>?_
 rw [Option.bind_eq_some_iff]
 constructor
 ·rintro ⟨n,hn⟩
  rw [Option.bind_eq_some_iff] at hn
  obtain ⟨b,hb,hg⟩:=hn
  exact ⟨b,(zez (zjb g d f ops _ σ') b).2 ⟨n,hb⟩,hg⟩
 ·rintro ⟨b,hb,hg⟩
  obtain ⟨n,hn⟩:=(zez (zjb g d f ops _ σ') b).1 hb
  exact ⟨n,by rw [hn];exact hg⟩

theorem opso_nil (ops:Array Oper):opso g d f ops [] σ=some σ:=zgk (by rw [evOps]) fun n=>by rw [evOps]

def stepo (g:Cfg) (d f:Nat) (o:Oper) (σ:St):Option St:=stepX (callo g d) g d f o σ

theorem mono_step (o:Oper):Mono fun n=>stepX (callN g n d) g d f o σ:=fun n=>zpm fun _ _ _=>zgj g d _ _ _ n

theorem lim_bind' {α β:Type} {p:Nat→Option α} {q:Nat→α→Option β} (hp:Mono p) (hq:∀ a,Mono fun n=>q n a) :
 lim (fun n=>(p n).bind (q n))=(lim p).bind fun a=>lim fun n=>q n a:=by
 have hm:Mono fun n=>(p n).bind (q n):=fun n=>Le.bind (hp n) fun a=>hq a n
 rw [← lim_shift (f:=fun n=>match n with | 0=>none | n+1=>(p n).bind (q n)) rfl (fun n=>rfl) hm]
 exact zgq (fun n=>by cases n with | zero=>exact Le.none _ | succ n=>exact hm n) rfl (fun n=>rfl) hp hq

theorem lim_stepW (o:Oper):lim (fun n=>stepW (callN g n d) g d f o σ)=stepW (callo g d) g d f o σ:=by
 unfold stepW
 split
 ·rename_i x args _ _
  rw [lim_bind' (p:=fun _=>calleeOf σ.env x) (q:=fun n kc=>(callN g n d kc.1 (args.toList.map (fun y=>(opnd σ.env y).copy) ++ kc.2) σ.mem).bind fun rm=>callEnd g f o σ kc.1 rm)
   (zbx _) (fun kc n=>Le.bind (zgj g d _ _ _ n) fun _=>Le.refl _),zat]
  congr 1
  funext kc
  rw [lim_bind' (p:=fun n=>callN g n d kc.1 (args.toList.map (fun y=>(opnd σ.env y).copy) ++ kc.2) σ.mem) (q:=fun _ rm=>callEnd g f o σ kc.1 rm) (zgj g d _ _ _) (fun rm=>zbx _)]
  unfold callo
  congr 1
  funext rm
  exact zat _
 ·exact zat _

theorem lim_map {α β:Type} {p:Nat→Option α} (F:α→β) (hp:Mono p):lim (fun n=>(p n).map F)=(lim p).map F:=by
 have h1:∀ x:Option α,x.map F=x.bind fun a=>some (F a):=fun x=>by cases x <;> rfl
 simp only [h1]
 rw [lim_bind' (p:=p) (q:=fun _ a=>some (F a)) hp fun a=>zbx _]
 congr 1
 funext a
 exact zat _
theorem lim_bx (g:Cfg) (d:Nat) (dst:Option Nat) (k:Nat) (az_:List AV) (mem:Key→Option (List C)):lim (fun n=>bxCall (callN g n d) g d dst k az_ mem)=bxCall (callo g d) g d dst k az_ mem:=by
 unfold bxCall
 split
 ·split
  ·exact zat _
  ·rfl
 ·exact zat _
 ·exact zat _
theorem lim_step (o:Oper):lim (fun n=>stepX (callN g n d) g d f o σ)=stepo g d f o σ:=by
 unfold stepo stepX
 split
 ·split
  ·unfold giveStep
   split
   ·split
    ·rw [lim_map _ (fun n=>by
      split
      ·exact Le.refl _
      ·split
       ·exact Le.refl _
       ·exact bxCall_le (fun k az_ m=>zgj g d k az_ m n) _ _ _)]
     congr 1
     split
     ·exact zat _
     ·split
      ·exact zat _
      ·exact lim_bx _ _ _ _ _ _
    ·exact zat _
   ·exact zat _
  ·exact lim_stepW g d f σ o
 ·exact lim_stepW g d f σ o

theorem opso_cons (ops:Array Oper) (o:Oper) (rest:List Oper):opso g d f ops (o :: rest) σ=(wants ops σ.env o).bind fun want =>
 (if want then stepo g d f o σ else some { σ with env:=putD σ.env o.dst .skp }).bind fun σ'=>opso g d f ops rest σ':=by
 unfold opso
 have hs:∀ want:Bool,Mono fun n=>(if want then stepX (callN g n d) g d f o σ else some { σ with env:=putD σ.env o.dst .skp }):=by
  intro want
  cases want with
  | true=>exact mono_step g d f σ o
  | false=>exact zbx _
 rw [zgq (zjb g d f ops (o :: rest) σ) (by rw [evOps]) (p:=fun _=>wants ops σ.env o)
  (q:=fun n want=>(if want then stepX (callN g n d) g d f o σ else some { σ with env:=putD σ.env o.dst .skp }).bind fun σ'=>evOps g n d f ops rest σ')
  (fun n=>by rw [evOps]) (zbx _) (fun want n=>Le.bind (hs want n) fun _=>zjb g d f ops rest _ n),zat]
 congr 1
 funext want
 rw [lim_bind' (hs want) (fun σ'=>zjb g d f ops rest σ')]
 congr 1
 cases want with
 | true=>exact lim_step g d f σ o
 | false=>exact zat _

theorem zmj (args:List AV) (mem:Mem):callo g d f args mem =
 match lookN f g.ctx with
 | some F=>(args.mapM AV.lend).bind fun la=>(F la).bind fun r=>if r.own? || (r.data? && args.all AV.shr?) then some (r,mem) else none
 | none =>
  match g.P.funcs[f]? with
  | some fn =>
   match fn.body with
   | some c=>if !fnOK g f fn || args.length > fn.ntmps then pxCall g.near d args mem (lookN f g.pctx) else
    (evo g (d+1) f c { env:=fun t=>(args[t]?).getD .dead,mem }).bind fun out =>
     out.done.bind fun σ=>(ghoAt g (d+1) f atEnd σ).bind fun σ=>(retVal g.P (d+1) fn σ).bind fun r=>some (r.kill (fun k=>d < k.1),memKill (fun k=>d < k.1) σ.mem)
   | none=>none
  | none=>none:=by
 unfold callo
 cases hl:lookN f g.ctx with
 | some F=>exact zgk (by rw [callN]) fun n=>by rw [callN,hl]
 | none =>
  simp only
  cases hf:g.P.funcs[f]? with
  | none=>exact zgk (by rw [callN]) fun n=>by rw [callN,hl];simp only [hf]
  | some fn =>
   simp only
   cases hb:fn.body with
   | none=>exact zgk (by rw [callN]) fun n=>by rw [callN,hl];simp only [hf,hb]
   | some c =>
    simp only
    by_cases hc:(!fnOK g f fn || decide (args.length > fn.ntmps))=true
    ·simp only [hc,if_true]
     exact zgk (by rw [callN]) fun n=>by rw [callN,hl];simp only [hf,hb,hc,if_true]
    ·simp only [Bool.not_eq_true] at hc
     simp only [hc,Bool.false_eq_true,if_false]
     rw [zgq (zgj g d f args mem) (by rw [callN]) (p:=fun n=>evN g n (d+1) f c { env:=fun t=>(args[t]?).getD .dead,mem })
      (q:=fun _ out=>out.done.bind fun σ=>(ghoAt g (d+1) f atEnd σ).bind fun σ=>(retVal g.P (d+1) fn σ).bind fun r=>some (r.kill (fun k=>d < k.1),memKill (fun k=>d < k.1) σ.mem))
      (fun n=>by rw [callN,hl];simp only [hf,hb,hc,Bool.false_eq_true,if_false]) (zfl g (d+1) f c _) (fun _=>zbx _)]
     unfold evo
     cases lim (fun n=>evN g n (d+1) f c { env:=fun t=>(args[t]?).getD .dead,mem }) with
     | none=>rfl
     | some out=>exact zat _

end Go.Ev


namespace Go.Ev

inductive Ow where
 | slot (d t:Nat)
 | cell (k:Key)
 | ret
 deriving DecidableEq

inductive Tag where
 | foreign
 | box (k:Key)
 | at (o:Ow) (p:List Nat)
 deriving DecidableEq

structure Gh where
 own:Nat→Option Tag
 use:Nat→Nat
 β:Key→Nat
 live:Key→Prop
 /-- the depth of the frame that a block was born in (or came back to) -/
 age:Nat→Nat
 /-- how many cells a box's block has -/
 cap:Key→Nat

def Md.isOwn:Md→Bool
 | .own | .top=>true
 | _=>false

def nodeOK (w:World) (G:Gh) (m:Md) (o:Ow) (p:List Nat) (b off n cap len:Nat):Prop:=match m with
 | .own | .top=>G.own b=some (.at o p)∧off+len=G.use b∧off=0∧∃ arr e,w.heap[b]?=some (.cells arr e (0,0))∧∀ sz,len=n * sz→off+cap * sz≤arr.size
 | .shr=>G.own b=none∧off+len≤G.use b
 | .bor=>(∀ k,G.own b≠some (.box k))∧off+len≤G.use b

mutual
def RD (w:World) (G:Gh) (o:Ow):Md→List Nat→D→Value→Prop
 | _,_,.sc x,v=>v=x∧scal x=true
 | m,p,.sl n cs,v =>
  (cs=[]∧n=0∧∃ a cap,v=.slice a 0 cap∧(m.isOwn=true→cap=0)) ∨
  (cs≠[]∧0 < n∧∃ b off cap,v=.slice (some ⟨b,off,none⟩) n cap∧n≤cap∧nodeOK w G m o p b off n cap cs.length∧RDs w G o m.elem p b off 0 cs)
def RDs (w:World) (G:Gh) (o:Ow):Md→List Nat→Nat→Nat→Nat→List D→Prop
 | _,_,_,_,_,[]=>True
 | m,p,b,off,i,d :: ds=>(∃ v,w.cell? ⟨b,off+i,none⟩=some v∧RD w G o m (p ++ [i]) d v)∧RDs w G o m p b off (i+1) ds
end

theorem zqw {w:World} {G:Gh} {o:Ow} {m:Md} {p:List Nat} {b off:Nat}:∀ {cs:List D} {i:Nat},RDs w G o m p b off i cs →
 ∀ (j:Nat) (d:D),cs[j]?=some d→∃ v,w.cell? ⟨b,off+(i+j),none⟩=some v∧RD w G o m (p ++ [i+j]) d v
 | [],_,_,j,d,h=>by cases h
 | c :: cs,i,h,j,d,hj=>by
  rw [RDs] at h
  cases j with
  | zero=>cases hj;exact h.1
  | succ j =>
   have:=zqw h.2 j d hj
   rw [show i+1+j=i+(j+1) by omega] at this
   exact this

theorem zlb {w:World} {G:Gh} {o:Ow} {m:Md} {p:List Nat} {b off:Nat}:∀ {cs:List D} {i:Nat},
 (∀ (j:Nat) (d:D),cs[j]?=some d→∃ v,w.cell? ⟨b,off+(i+j),none⟩=some v∧RD w G o m (p ++ [i+j]) d v)→RDs w G o m p b off i cs
 | [],_,_=>by rw [RDs];trivial
 | c :: cs,i,h=>by
  rw [RDs]
  refine ⟨h 0 c rfl,zlb fun j d hj=>?_⟩
  have:=h (j+1) d hj
  rw [show i+(j+1)=i+1+j by omega] at this
  exact this

theorem zos {w:World} {b off:Nat} {v:Value} (h:w.cell? ⟨b,off,none⟩=some v):b < w.heap.size:=by
 unfold World.cell? at h
 rcases Nat.lt_or_ge b w.heap.size with hb | hb
 ·exact hb
 ·simp [Array.getElem?_eq_none hb] at h

structure Hand (w:World) (G:Gh) (w':World) (G':Gh) (o:Ow) (p:List Nat) (o':Ow) (p':List Nat):Prop where
 tag:∀ b q,b < w.heap.size→G.own b=some (.at o (p ++ q))→G'.own b=some (.at o' (p' ++ q))∧G'.use b=G.use b∧w'.heap[b]?=w.heap[b]?
 nil:∀ b,b < w.heap.size→G.own b=none→G'.own b=none
 nilh:∀ b,b < w.heap.size→G.own b=none→w'.heap[b]?=w.heap[b]?
 box:∀ b,b < w.heap.size→(∀ k,G.own b≠some (.box k))→∀ k,G'.own b≠some (.box k)
 use:∀ b,b < w.heap.size→(∀ k,G.own b≠some (.box k))→G.use b≤G'.use b
 cell:∀ b off,b < w.heap.size→(∀ k,G.own b≠some (.box k))→off < G.use b→w'.cell? ⟨b,off,none⟩=w.cell? ⟨b,off,none⟩

theorem Hand.sub {w:World} {G:Gh} {w':World} {G':Gh} {o:Ow} {p:List Nat} {o':Ow} {p':List Nat} (h:Hand w G w' G' o p o' p') (i:List Nat) :
 Hand w G w' G' o (p ++ i) o' (p' ++ i) :=
 ⟨fun b q hb hq=>by rw [List.append_assoc] at hq ⊢; exact h.tag b (i ++ q) hb hq,h.nil,h.nilh,h.box,h.use,h.cell⟩

theorem zfo {w:World} {G:Gh} {m:Md} {o:Ow} {p:List Nat} {b off n cap len:Nat} (h:nodeOK w G m o p b off n cap len):∀ k,G.own b≠some (.box k):=by
 intro k
 cases m <;> simp only [nodeOK] at h
 ·rw [h.1];simp
 ·rw [h.1];simp
 ·rw [h.1];simp
 ·exact h.1 k

theorem zgb {w:World} {G:Gh} {m:Md} {o:Ow} {p:List Nat} {b off n cap len:Nat} (h:nodeOK w G m o p b off n cap len):off+len≤G.use b:=by
 cases m <;> simp only [nodeOK] at h
 ·omega
 ·omega
 ·exact h.2
 ·exact h.2

theorem Hand.node {w:World} {G:Gh} {w':World} {G':Gh} {o:Ow} {p:List Nat} {o':Ow} {p':List Nat} (h:Hand w G w' G' o p o' p')
 {m:Md} {b off n cap len:Nat} (hb:b < w.heap.size) (hn:nodeOK w G m o p b off n cap len):nodeOK w' G' m o' p' b off n cap len:=by
 cases m <;> simp only [nodeOK] at hn ⊢
 ·obtain ⟨h1,h2,h0,arr,e,h3,h4⟩:=hn
  obtain ⟨t1,t2,t3⟩:=h.tag b [] hb (by simpa using h1)
  exact ⟨by simpa using t1,by omega,h0,arr,e,by rw [t3,h3],h4⟩
 ·obtain ⟨h1,h2,h0,arr,e,h3,h4⟩:=hn
  obtain ⟨t1,t2,t3⟩:=h.tag b [] hb (by simpa using h1)
  exact ⟨by simpa using t1,by omega,h0,arr,e,by rw [t3,h3],h4⟩
 ·exact ⟨h.nil b hb hn.1,Nat.le_trans hn.2 (h.use b hb (by rw [hn.1];simp))⟩
 ·exact ⟨h.box b hb hn.1,Nat.le_trans hn.2 (h.use b hb hn.1)⟩

mutual
theorem Hand.rd {w:World} {G:Gh} {w':World} {G':Gh} {o:Ow} {p:List Nat} {o':Ow} {p':List Nat} (h:Hand w G w' G' o p o' p') :
 ∀ {d:D} {m:Md} {v:Value},RD w G o m p d v→RD w' G' o' m p' d v
 | .sc x,m,v,hr=>by rw [RD] at hr ⊢; exact hr
 | .sl n cs,m,v,hr=>by
  rw [RD] at hr ⊢
  rcases hr with hr | ⟨h1,h2,b,off,cap,hv,hc,hn,hs⟩
  ·exact .inl hr
  ·obtain ⟨c,cs',rfl⟩:=List.exists_cons_of_ne_nil h1
   have hb:b < w.heap.size:=by
    rw [RDs] at hs
    obtain ⟨⟨v',hv',_⟩,_⟩:=hs
    exact zos hv'
   exact .inr ⟨h1,h2,b,off,cap,hv,hc,h.node hb hn,Hand.rds h hb (zfo hn) (by have:=zgb hn;simpa using this) hs⟩
theorem Hand.rds {w:World} {G:Gh} {w':World} {G':Gh} {o:Ow} {p:List Nat} {o':Ow} {p':List Nat} (h:Hand w G w' G' o p o' p') :
 ∀ {cs:List D} {m:Md} {b off i:Nat},b < w.heap.size→(∀ k,G.own b≠some (.box k))→off+i+cs.length≤G.use b→RDs w G o m p b off i cs→RDs w' G' o' m p' b off i cs
 | [],m,b,off,i,_,_,_,_=>by rw [RDs];trivial
 | d :: ds,m,b,off,i,hb,hk,hu,hr=>by
  rw [RDs] at hr ⊢
  obtain ⟨⟨v,hv,hd⟩,hr⟩:=hr
  simp only [List.length_cons] at hu
  exact ⟨⟨v,by rw [h.cell b _ hb hk (by omega)];exact hv,Hand.rd (h.sub [i]) hd⟩,Hand.rds h hb hk (by omega) hr⟩
end

def RC (w:World) (G:Gh) (o:Ow) (p:List Nat):C→Value→Prop
 | .s x,v=>v=x∧scal x=true
 | .l m n cs,v=>RD w G o m p (.sl n cs) v
 | .ep m cs pos,v=>m.isOwn=false∧cs≠[]∧∃ b off,v=.pointer (some ⟨b,off+pos,none⟩)∧(∀ k,G.own b≠some (.box k))∧off+cs.length≤G.use b∧RDs w G o m p b off 0 cs
 | .ptr k off,v=>G.live k∧v=.pointer (some ⟨G.β k,off,none⟩)
 | .fn f caps,v=>(∀ c∈caps,G.live c.1)∧∃ vs,v=.func (.func f) #[] vs∧vs.toList=caps.map fun c=>.pointer (some ⟨G.β c.1,c.2,none⟩)
 | .bs k n sz,v=>G.live k∧0 < sz∧∃ a cap,v=.slice a n cap∧(n=0→cap=0)∧(0 < n→a=some ⟨G.β k,0,none⟩∧n≤cap∧cap * sz≤G.cap k)
 | .mp es,v=>∃ b arr clock,v=.map (some b)∧G.own b=none∧w.heap[b]?=some (.map arr clock)∧∀ s n cs,lookM s es=some (n,cs)→∃ i x,Instr.findNow .string (.string s) arr.toList 0=some (some (i,x))∧RD w G o .shr p (.sl n cs) x
 | .dead,_=>True

def RCs (w:World) (G:Gh) (o:Ow) (p:List Nat) (i:Nat) (cs:List C) (vs:List Value):Prop :=
 vs.length=cs.length∧∀ j c,cs[j]?=some c→∃ x,vs[j]?=some x∧RC w G o (p ++ [i+j]) c x

def RA (w:World) (G:Gh) (o:Ow):AV→Value→Prop
 | .one c,v=>RC w G o [] c v
 | .ag cs,v=>∃ vs,v=.agg vs∧RCs w G o [] 0 cs vs.toList
 | .tu l,v=>∃ vs,v=.tuple vs∧vs.size=l.length∧∀ (i:Nat) (b:Bool) (cs:List C),l[i]?=some (b,cs)→∃ x,vs[i]?=some x ∧
  if b=true then ∃ xs:Array Value,x=.agg xs∧RCs w G o [i] 0 cs xs.toList else RCs w G o [i] 0 cs [x]

structure Hands (w:World) (G:Gh) (w':World) (G':Gh) (o:Ow) (p:List Nat) (o':Ow) (p':List Nat) (q:Key→Bool):Prop extends Hand w G w' G' o p o' p' where
 live:∀ k,G.live k→q k=false→G'.live k∧G'.β k=G.β k∧G'.cap k=G.cap k

theorem Hands.sub {w:World} {G:Gh} {w':World} {G':Gh} {o:Ow} {p:List Nat} {o':Ow} {p':List Nat} {q:Key→Bool} (h:Hands w G w' G' o p o' p' q) (i:List Nat) :
 Hands w G w' G' o (p ++ i) o' (p' ++ i) q:=⟨h.toHand.sub i,h.live⟩

theorem Hands.rc {w:World} {G:Gh} {w':World} {G':Gh} {o:Ow} {p:List Nat} {o':Ow} {p':List Nat} {q:Key→Bool} (h:Hands w G w' G' o p o' p' q) {c:C} {v:Value}
 (hr:RC w G o p c v):RC w' G' o' p' (c.kill q) v:=by
 cases c with
 | s x=>exact hr
 | l m n cs=>exact h.toHand.rd hr
 | ep m cs pos =>
  obtain ⟨hm,h1,b,off,hv,hk,hu,hs⟩:=hr
  have hb:b < w.heap.size:=by
   obtain ⟨c,cs',rfl⟩:=List.exists_cons_of_ne_nil h1
   rw [RDs] at hs
   obtain ⟨⟨v',hv',_⟩,_⟩:=hs
   exact zos hv'
  exact ⟨hm,h1,b,off,hv,h.box b hb hk,Nat.le_trans hu (h.use b hb hk),Hand.rds h.toHand hb hk (by simpa using hu) hs⟩
 | ptr k off =>
  obtain ⟨hl,hv⟩:=hr
  simp only [C.kill]
  cases hq:q k with
  | true=>exact trivial
  | false=>exact ⟨(h.live k hl hq).1,by rw [(h.live k hl hq).2.1];exact hv⟩
 | fn f caps =>
  obtain ⟨hl,vs,hv,hvs⟩:=hr
  simp only [C.kill]
  cases hq:caps.any (fun c=>q c.1) with
  | true=>exact trivial
  | false =>
   have hq':∀ c∈caps,q c.1=false:=by
    intro c hc
    rw [List.any_eq_false] at hq
    simpa using hq c hc
   refine ⟨fun c hc=>(h.live c.1 (hl c hc) (hq' c hc)).1,vs,hv,?_⟩
   rw [hvs]
   exact List.map_congr_left fun c hc=>by rw [(h.live c.1 (hl c hc) (hq' c hc)).2.1]
 | bs k n sz =>
  obtain ⟨hl,hz,ba,cap,hv,h1,h2⟩:=hr
  simp only [C.kill]
  cases hq:q k with
  | true=>exact trivial
  | false =>
   obtain ⟨a1,a2,a3⟩:=h.live k hl hq
   exact ⟨a1,hz,ba,cap,hv,h1,by rw [a2,a3];exact h2⟩
 | mp es =>
  obtain ⟨b,arr,clock,hv,hn,hh,hs⟩:=hr
  have hb:b < w.heap.size:=by
   rcases Nat.lt_or_ge b w.heap.size with h | h
   ·exact h
   ·simp [Array.getElem?_eq_none h] at hh
  refine ⟨b,arr,clock,hv,h.nil b hb hn,by rw [h.nilh b hb hn,hh],fun s n cs hl=>?_⟩
  obtain ⟨i,x,h1,h2⟩:=hs s n cs hl
  exact ⟨i,x,h1,h.toHand.rd h2⟩
 | dead=>exact trivial

theorem Hands.rcs {w:World} {G:Gh} {w':World} {G':Gh} {o:Ow} {p:List Nat} {o':Ow} {p':List Nat} {q:Key→Bool} (h:Hands w G w' G' o p o' p' q) {cs:List C} {i:Nat} {vs:List Value}
 (hr:RCs w G o p i cs vs):RCs w' G' o' p' i (cs.map (C.kill q)) vs:=by
 refine ⟨by rw [hr.1,List.length_map],fun j c hj=>?_⟩
 rw [List.getElem?_map] at hj
 cases hc:cs[j]? with
 | none=>rw [hc] at hj;cases hj
 | some c0 =>
  rw [hc] at hj
  obtain rfl:=Option.some.inj hj
  obtain ⟨x,hx,hrc⟩:=hr.2 j c0 hc
  exact ⟨x,hx,(h.sub [i+j]).rc hrc⟩

theorem Hands.ra {w:World} {G:Gh} {w':World} {G':Gh} {o o':Ow} {q:Key→Bool} (h:Hands w G w' G' o [] o' [] q) {a:AV} {v:Value}
 (hr:RA w G o a v):RA w' G' o' (a.kill q) v:=by
 cases a with
 | one c=>exact h.rc hr
 | ag cs =>
  obtain ⟨vs,hv,hs⟩:=hr
  exact ⟨vs,hv,h.rcs hs⟩
 | tu l =>
  obtain ⟨vs,hv,hz,hs⟩:=hr
  refine ⟨vs,hv,by rw [hz,List.length_map],fun i b cs hi=>?_⟩
  rw [List.getElem?_map] at hi
  cases hl:l[i]? with
  | none=>rw [hl] at hi;cases hi
  | some bc =>
   rw [hl] at hi
   obtain ⟨b0,cs0⟩:=bc
   simp only [Option.map_some,Option.some.injEq,Prod.mk.injEq] at hi
   obtain ⟨rfl,rfl⟩:=hi
   obtain ⟨x,hx,hc⟩:=hs i b0 cs0 hl
   refine ⟨x,hx,?_⟩
   cases b0 with
   | true =>
    obtain ⟨xs,hxs,hr⟩:=hc
    exact ⟨xs,hxs,(h.sub [i]).rcs hr⟩
   | false=>exact (h.sub [i]).rcs hc

theorem C.kill_none (c:C):c.kill (fun _=>false)=c:=by
 cases c <;> simp [C.kill]
theorem zcf (cs:List C):cs.map (C.kill fun _=>false)=cs:=by
 rw [show C.kill (fun _=>false)=id from funext C.kill_none];exact List.map_id cs
theorem AV.kill_none (a:AV):a.kill (fun _=>false)=a:=by
 cases a with
 | one c=>simp [AV.kill,C.kill_none]
 | ag cs=>simp only [AV.kill,zcf]
 | tu l =>
  simp only [AV.kill,zcf]
  congr 1
  exact List.map_id l

end Go.Ev


namespace Go.Ev

def Ow.dep (d:Nat):Ow→Nat
 | .slot d' _=>d'
 | .cell k=>k.1
 | .ret=>d
def Tag.dep (d:Nat):Tag→Nat
 | .foreign=>0
 | .box k=>k.1
 | .at o _=>o.dep d

structure Sim (d N:Nat) (G:Gh) (σ:St) (tm:Array Value) (w:World):Prop where
 sz:tm.size=N
 env:∀ t,RA w G (.slot d t) (σ.env t) (tm.getD t undef)
 mem:∀ k cs,σ.mem k=some cs→cs≠[]→∃ arr e,w.heap[G.β k]?=some (.cells arr e (0,0))∧G.own (G.β k)=some (.box k)∧arr.size=G.cap k∧RCs w G (.cell k) [] 0 cs (arr.toList.take cs.length)
 live:∀ k,G.live k ↔ (σ.mem k).isSome=true
 dep:∀ k,G.live k→k.1≤d
 wf:∀ b t,G.own b=some t→b < w.heap.size
 wfb:∀ b k,G.own b=some (.box k)→G.live k∧G.β k=b
 wfc:∀ b k p,G.own b=some (.at (.cell k) p)→G.live k
 age:∀ b,G.age b≤d
 fut:∀ b,w.heap.size≤b→G.age b=d
 aged:∀ b t,G.own b=some t→t.dep d≤G.age b
 jump:G.live (d,deepK)→∀ b,G.age b+1≠d

def touch (d:Nat):Option Tag→Prop
 | some (.box _)=>True
 | some (.at (.cell _) _)=>True
 | some (.at (.slot d' _) _)=>d≤d'
 | some (.at .ret _)=>True
 | _=>False

def Kept (w w':World):Prop:=(w'.os=w.os∧w'.tape=w.tape∧w'.output=w.output)∧∀ a,a.block < w.heap.size→a.block < w'.heap.size∧w'.frozen? a=w.frozen? a
theorem Kept.refl (w:World):Kept w w:=⟨⟨rfl,rfl,rfl⟩,fun _ h=>⟨h,rfl⟩⟩
theorem Kept.trans {w w1 w2:World} (h:Kept w w1) (h':Kept w1 w2):Kept w w2:=⟨⟨h'.1.1.trans h.1.1,h'.1.2.1.trans h.1.2.1,h'.1.2.2.trans h.1.2.2⟩,fun a ha=>⟨(h'.2 a (h.2 a ha).1).1,(h'.2 a (h.2 a ha).1).2.trans (h.2 a ha).2⟩⟩

structure Frm (d:Nat) (G:Gh) (w:World) (G':Gh) (w':World):Prop where
 size:w.heap.size≤w'.heap.size
 kept:Kept w w'
 same:∀ b,b < w.heap.size→¬ touch d (G.own b)→w'.heap[b]?=w.heap[b]?∧G'.own b=G.own b∧G'.use b=G.use b
 age:∀ b,b < w.heap.size→G.age b < d→G'.age b=G.age b
 box:∀ b,b < w.heap.size→G.age b < d→(∀ k,G.own b≠some (.box k))→∀ k,G'.own b≠some (.box k)
 use:∀ b,b < w.heap.size→G.age b < d→G.use b≤G'.use b
 cell:∀ b off,b < w.heap.size→G.age b < d→(∀ k,G.own b≠some (.box k))→off < G.use b→w'.cell? ⟨b,off,none⟩=w.cell? ⟨b,off,none⟩
 live:∀ k,G.live k→k.1 < d→G'.live k∧G'.β k=G.β k∧G'.cap k=G.cap k
 back:∀ k,k.1 < d→G'.live k→G.live k∨adoptK≤k.2
 up:∀ b,d≤G.age b+1→d≤G'.age b+1

theorem Frm.refl (d:Nat) (G:Gh) (w:World):Frm d G w G w :=
 ⟨Nat.le_refl _,Kept.refl w,fun _ _ _=>⟨rfl,rfl,rfl⟩,fun _ _ _=>rfl,fun _ _ _ h=>h,fun _ _ _=>Nat.le_refl _,fun _ _ _ _ _ _=>rfl,fun _ h _=>⟨h,rfl,rfl⟩,fun _ _ h=>.inl h,fun _ h=>h⟩

theorem Frm.trans {d:Nat} {G G1 G2:Gh} {w w1 w2:World} (h1:Frm d G w G1 w1) (h2:Frm d G1 w1 G2 w2):Frm d G w G2 w2 where
 size:=Nat.le_trans h1.size h2.size
 kept:=h1.kept.trans h2.kept
 same b hb ht:=by
  obtain ⟨a1,a2,a3⟩:=h1.same b hb ht
  obtain ⟨b1,b2,b3⟩:=h2.same b (Nat.lt_of_lt_of_le hb h1.size) (by rw [a2];exact ht)
  exact ⟨b1.trans a1,b2.trans a2,b3.trans a3⟩
 age b hb ha:=(h2.age b (Nat.lt_of_lt_of_le hb h1.size) (by rw [h1.age b hb ha];exact ha)).trans (h1.age b hb ha)
 box b hb ha hk:=h2.box b (Nat.lt_of_lt_of_le hb h1.size) (by rw [h1.age b hb ha];exact ha) (h1.box b hb ha hk)
 use b hb ha:=Nat.le_trans (h1.use b hb ha) (h2.use b (Nat.lt_of_lt_of_le hb h1.size) (by rw [h1.age b hb ha];exact ha))
 cell b off hb ha hk hu:=by
  rw [h2.cell b off (Nat.lt_of_lt_of_le hb h1.size) (by rw [h1.age b hb ha];exact ha) (h1.box b hb ha hk) (Nat.lt_of_lt_of_le hu (h1.use b hb ha)),h1.cell b off hb ha hk hu]
 live k hk hd:=by
  obtain ⟨a1,a2,a3⟩:=h1.live k hk hd
  obtain ⟨b1,b2,b3⟩:=h2.live k a1 hd
  exact ⟨b1,b2.trans a2,b3.trans a3⟩
 back k hd hk:=(h2.back k hd hk).elim (h1.back k hd) .inr
 up b hb:=h2.up b (h1.up b hb)

theorem Frm.hands {d:Nat} {G G':Gh} {w w':World} (h:Frm d G w G' w') {o:Ow} {p:List Nat} {q:Key→Bool} (ho:∀ r,¬ touch d (some (.at o r))) (ha:∀ b,b < w.heap.size→G.age b < d)
 (hl:∀ k,G.live k→q k=false→G'.live k∧G'.β k=G.β k∧G'.cap k=G.cap k):Hands w G w' G' o p o p q where
 tag b r hb ht:=by
  obtain ⟨a1,a2,a3⟩:=h.same b hb (by rw [ht];exact ho _)
  exact ⟨a2.trans ht,a3,a1⟩
 nil b hb ht:=by
  obtain ⟨a1,a2,a3⟩:=h.same b hb (by rw [ht];exact fun h=>h)
  exact a2.trans ht
 nilh b hb ht:=(h.same b hb (by rw [ht];exact fun h=>h)).1
 box b hb hk:=h.box b hb (ha b hb) hk
 use b hb _:=h.use b hb (ha b hb)
 cell b off hb hk hu:=h.cell b off hb (ha b hb) hk hu
 live:=hl

def ren (G:Gh) (φ:Tag→Tag):Gh:={ G with own:=fun b=>(G.own b).map φ }

structure RenW (d:Nat) (φ:Tag→Tag):Prop where
 box:∀ k,φ (.box k)=.box k
 foreign:φ .foreign=.foreign
 at_:∀ o p,∃ o' p',φ (.at o p)=.at o' p'
 keep:∀ t,¬ touch d (some t)→φ t=t
structure RenOK (d:Nat) (φ:Tag→Tag):Prop extends RenW d φ where
 dp:∀ o p,(φ (.at o p)).dep d≤o.dep d

theorem zgs {G:Gh} {φ:Tag→Tag} (b:Nat):(ren G φ).own b=(G.own b).map φ:=rfl

theorem RenW.nonbox {d:Nat} {φ:Tag→Tag} (h:RenW d φ) {G:Gh} {b:Nat} (hk:∀ k,G.own b≠some (.box k)):∀ k,(ren G φ).own b≠some (.box k):=by
 intro k hc
 rw [zgs] at hc
 cases ho:G.own b with
 | none=>rw [ho] at hc;cases hc
 | some t =>
  rw [ho] at hc
  simp only [Option.map_some,Option.some.injEq] at hc
  cases t with
  | foreign=>rw [h.foreign] at hc;cases hc
  | box k'=>exact hk k' ho
  | «at» o p=>obtain ⟨o',p',he⟩:=h.at_ o p;rw [he] at hc;cases hc

theorem RenW.hands {d:Nat} {φ:Tag→Tag} (h:RenW d φ) (G:Gh) (w:World) {o o':Ow} {p p':List Nat} (ho:∀ q,φ (.at o (p ++ q))=.at o' (p' ++ q)) :
 Hands w G w (ren G φ) o p o' p' fun _=>false where
 tag b q _ ht:=⟨by rw [zgs,ht,Option.map_some,ho],rfl,rfl⟩
 nil b _ ht:=by rw [zgs,ht];rfl
 nilh _ _ _:=rfl
 box b _ hk:=h.nonbox hk
 use _ _ _:=Nat.le_refl _
 cell _ _ _ _ _:=rfl
 live k hk _:=⟨hk,rfl,rfl⟩

theorem RenW.frm {d:Nat} {φ:Tag→Tag} (h:RenW d φ) (G:Gh) (w:World):Frm d G w (ren G φ) w where
 size:=Nat.le_refl _
 kept:=Kept.refl w
 same b _ ht:=⟨rfl,by
  rw [zgs]
  cases ho:G.own b with
  | none=>rfl
  | some t=>rw [ho] at ht;rw [Option.map_some,h.keep t ht],rfl⟩
 age _ _ _:=rfl
 box b _ _ hk:=h.nonbox hk
 use _ _ _:=Nat.le_refl _
 cell _ _ _ _ _ _:=rfl
 live _ h _:=⟨h,rfl,rfl⟩
 back _ _ h:=.inl h
 up _ h:=h

theorem RenOK.tagdep {d:Nat} {φ:Tag→Tag} (h:RenOK d φ) (t:Tag):(φ t).dep d≤t.dep d:=by
 cases t with
 | foreign=>rw [h.foreign];exact Nat.le_refl _
 | box k=>rw [h.box];exact Nat.le_refl _
 | «at» o p=>exact h.dp o p


mutual
theorem zmb {w:World} {G:Gh} {o o':Ow}:∀ {d:D} {m:Md} {p p':List Nat} {v:Value},m.isOwn=false→RD w G o m p d v→RD w G o' m p' d v
 | .sc x,m,p,p',v,_,hr=>by rw [RD] at hr ⊢; exact hr
 | .sl n cs,m,p,p',v,hm,hr=>by
  rw [RD] at hr ⊢
  rcases hr with hr | ⟨h1,h2,b,off,cap,hv,hc,hn,hs⟩
  ·exact .inl hr
  ·refine .inr ⟨h1,h2,b,off,cap,hv,hc,?_,zlq (by cases m <;> simp_all [Md.elem,Md.isOwn]) hs⟩
   cases m <;> first | (simp [Md.isOwn] at hm;done) | exact hn
theorem zlq {w:World} {G:Gh} {o o':Ow}:∀ {cs:List D} {m:Md} {p p':List Nat} {b off i:Nat},m.isOwn=false→RDs w G o m p b off i cs→RDs w G o' m p' b off i cs
 | [],m,p,p',b,off,i,_,_=>by rw [RDs];trivial
 | d :: ds,m,p,p',b,off,i,hm,hr=>by
  rw [RDs] at hr ⊢
  obtain ⟨⟨v,hv,hd⟩,hr⟩:=hr
  exact ⟨⟨v,hv,zmb hm hd⟩,zlq hm hr⟩
end


mutual
theorem RD_bor {w:World} {G:Gh} {o o':Ow}:∀ {d:D} {m:Md} {p p':List Nat} {v:Value},RD w G o m p d v→RD w G o' .bor p' d v
 | .sc x,m,p,p',v,hr=>by rw [RD] at hr ⊢; exact hr
 | .sl n cs,m,p,p',v,hr=>by
  rw [RD] at hr ⊢
  rcases hr with ⟨h1,h2,a,cap,hv,_⟩|⟨h1,h2,b,off,cap,hv,hc,hn,hs⟩
  ·exact .inl ⟨h1,h2,a,cap,hv,by simp [Md.isOwn]⟩
  ·exact .inr ⟨h1,h2,b,off,cap,hv,hc,⟨zfo hn,zgb hn⟩,zqx hs⟩
theorem zqx {w:World} {G:Gh} {o o':Ow}:∀ {cs:List D} {m:Md} {p p':List Nat} {b off i:Nat},RDs w G o m p b off i cs→RDs w G o' .bor p' b off i cs
 | [],m,p,p',b,off,i,_=>by rw [RDs];trivial
 | d :: ds,m,p,p',b,off,i,hr=>by
  rw [RDs] at hr ⊢
  obtain ⟨⟨v,hv,hd⟩,hr⟩:=hr
  exact ⟨⟨v,hv,RD_bor hd⟩,zqx hr⟩
end

theorem zit {w:World} {G:Gh} {o o':Ow} {p p':List Nat} {c:C} {v:Value} (h:RC w G o p c v):RC w G o' p' c.copy v:=by
 cases c with
 | s x=>exact h
 | l m n cs =>
  cases m with
  | own=>exact RD_bor h
  | top=>exact RD_bor h
  | shr=>exact zmb rfl h
  | bor=>exact zmb rfl h
 | ep m cs pos =>
  obtain ⟨hm,h1,b,off,hv,hk,hu,hs⟩:=h
  exact ⟨hm,h1,b,off,hv,hk,hu,zlq hm hs⟩
 | ptr k off=>exact h
 | fn f caps=>exact h
 | bs k n sz=>exact h
 | mp es =>
  obtain ⟨b,arr,clock,hv,hn,hh,hs⟩:=h
  refine ⟨b,arr,clock,hv,hn,hh,fun s n cs hl=>?_⟩
  obtain ⟨i,x,h1,h2⟩:=hs s n cs hl
  exact ⟨i,x,h1,zmb rfl h2⟩
 | dead=>exact trivial

theorem zji {w:World} {G:Gh} {o o':Ow} {p p':List Nat} {i i':Nat} {cs:List C} {vs:List Value} (h:RCs w G o p i cs vs):RCs w G o' p' i' (cs.map C.copy) vs:=by
 refine ⟨by rw [h.1,List.length_map],fun j c hj=>?_⟩
 rw [List.getElem?_map] at hj
 cases hc:cs[j]? with
 | none=>rw [hc] at hj;cases hj
 | some c0 =>
  rw [hc] at hj
  obtain rfl:=Option.some.inj hj
  obtain ⟨x,hx,hrc⟩:=h.2 j c0 hc
  exact ⟨x,hx,zit hrc⟩

theorem RA_copy {w:World} {G:Gh} {o o':Ow} {a:AV} {v:Value} (h:RA w G o a v):RA w G o' a.copy v:=by
 cases a with
 | one c=>exact zit h
 | ag cs=>obtain ⟨vs,hv,hs⟩:=h;exact ⟨vs,hv,zji hs⟩
 | tu l=>exact trivial

theorem zho {w:World} {G:Gh} {o:Ow} {p:List Nat} (v:Value):RC w G o p (C.ofValue v) v:=by
 unfold C.ofValue
 split
 ·rename_i h;exact ⟨rfl,h⟩
 ·split
  ·show RD _ _ _ _ _ _ _
   rw [RD]
   exact .inl ⟨rfl,rfl,none,0,rfl,fun _=>rfl⟩
  ·exact trivial

theorem zjz {w:World} {G:Gh} {o:Ow} {p:List Nat} {i:Nat} (vs:List Value):RCs w G o p i (vs.map C.ofValue) vs:=by
 refine ⟨by simp,fun j c hj=>?_⟩
 rw [List.getElem?_map] at hj
 cases hv:vs[j]? with
 | none=>rw [hv] at hj;cases hj
 | some v =>
  rw [hv] at hj
  obtain rfl:=Option.some.inj hj
  exact ⟨v,rfl,zho v⟩

theorem zjj {w:World} {G:Gh} {o:Ow} (v:Value):RA w G o (AV.ofValue v) v:=by
 unfold AV.ofValue
 split
 ·rename_i cs
  exact ⟨cs,rfl,zjz _⟩
 ·exact zho v

def owOf (d:Nat):Operand→Ow
 | .tmp t=>.slot d t
 | _=>.ret

theorem Sim.opnd {d N:Nat} {G:Gh} {σ:St} {w:World} {a:Act} (h:Sim d N G σ a.tmps w) (x:Operand):RA w G (owOf d x) (Ev.opnd σ.env x) (a.eval x):=by
 cases x with
 | tmp t=>exact h.env t
 | const v=>exact zjj v
 | global g=>exact trivial
 | func f=>exact ⟨fun c hc=>(List.not_mem_nil hc).elim,#[],rfl,rfl⟩

theorem RA_skp {w:World} {G:Gh} {o:Ow}:RA w G o .skp undef:=⟨#[],rfl,rfl,fun i b cs h=>by simp at h⟩
theorem Sim.dead {d N:Nat} {G:Gh} {σ:St} {w:World} {tm:Array Value} (h:Sim d N G σ tm w) (t:Nat):Sim d N G { σ with env:=upd σ.env t .dead } tm w :=
 {h with env:=fun t'=>(by
   show RA w G _ (upd σ.env t .dead t') _
   unfold upd
   split
   ·exact trivial
   ·exact h.env t') }

theorem Sim.kil {d N:Nat} {G:Gh} {σ:St} {w:World} {tm:Array Value} (h:Sim d N G σ tm w) (x:Operand):Sim d N G { σ with env:=Ev.kil σ.env x } tm w:=by
 cases x with
 | tmp t=>exact h.dead t
 | _=>exact h

theorem getD_put {tm:Array Value} {t t':Nat} {v:Value} (ht:t < tm.size):(tm.setIfInBounds t v).getD t' undef=if t'=t then v else tm.getD t' undef:=by
 simp only [Array.getD_eq_getD_getElem?,Array.getElem?_setIfInBounds]
 by_cases h:t'=t
 ·subst h;simp [ht]
 ·have h':¬ t=t':=fun e=>h e.symm
  simp [h,h']

theorem Sim.put {d N:Nat} {G:Gh} {σ:St} {w:World} {a:Act} (h:Sim d N G σ a.tmps w) {dst:Option Nat} (hd:dst.all (· < N)=true) {v:AV} {r:Value}
 (hv:∀ t,dst=some t→RA w G (.slot d t) v r):Sim d N G { σ with env:=putD σ.env dst v } (a.put dst r).tmps w:=by
 cases dst with
 | none=>exact h
 | some t =>
  have ht:t < a.tmps.size:=by rw [h.sz];simpa using hd
  refine { h with sz:=?_,env:=fun t'=>?_ }
  ·show (a.tmps.setIfInBounds t r).size=N
   rw [Array.size_setIfInBounds];exact h.sz
  ·show RA w G _ (upd σ.env t v t') ((a.tmps.setIfInBounds t r).getD t' undef)
   rw [getD_put ht]
   unfold upd
   split
   ·rename_i e;subst e;exact hv _ rfl
   ·exact h.env t'

end Go.Ev


namespace Go.Ev

theorem Hands.ra0 {w:World} {G:Gh} {w':World} {G':Gh} {o o':Ow} (h:Hands w G w' G' o [] o' [] fun _=>false) {a:AV} {v:Value}
 (hr:RA w G o a v):RA w' G' o' a v:=by
 have:=h.ra hr
 rwa [AV.kill_none] at this
theorem Hands.rc0 {w:World} {G:Gh} {w':World} {G':Gh} {o o':Ow} {p p':List Nat} (h:Hands w G w' G' o p o' p' fun _=>false) {c:C} {v:Value}
 (hr:RC w G o p c v):RC w' G' o' p' c v:=by
 have:=h.rc hr
 rwa [C.kill_none] at this
theorem Hands.rcs0 {w:World} {G:Gh} {w':World} {G':Gh} {o o':Ow} {p p':List Nat} (h:Hands w G w' G' o p o' p' fun _=>false) {i:Nat} {cs:List C} {vs:List Value}
 (hr:RCs w G o p i cs vs):RCs w' G' o' p' i cs vs:=by
 have:=h.rcs hr
 rwa [zcf] at this

theorem Sim.renG {d N:Nat} {G:Gh} {σ:St} {w:World} {tm:Array Value} (h:Sim d N G σ tm w) {φ:Tag→Tag} (hφ:RenW d φ) (ha:∀ b t,G.own b=some t→(φ t).dep d≤G.age b) (env':Nat→AV) (mem':Mem)
 (he:∀ t,env' t=.dead∨(env' t=σ.env t∧∀ q,φ (.at (.slot d t) q)=.at (.slot d t) q))
 (hm:∀ k,(mem' k=none∧σ.mem k=none)∨∃ cs cs',σ.mem k=some cs∧mem' k=some cs'∧cs'.length=cs.length ∧
  ∀ (i:Nat) c',cs'[i]?=some c'→c'=.dead∨(cs[i]?=some c'∧∀ q,φ (.at (.cell k) (i :: q))=.at (.cell k) (i :: q)))
 (hnew:∀ o p k q,φ (.at o p)=.at (.cell k) q→(∃ k',o=.cell k'∧k'=k)∨G.live k):Sim d N (Ev.ren G φ) { env:=env',mem:=mem' } tm w where
 sz:=h.sz
 env t:=by
  rcases he t with he | ⟨he,hq⟩
  ·show RA _ _ _ (env' t) _;rw [he];exact trivial
  ·show RA _ _ _ (env' t) _;rw [he]
   exact (hφ.hands G w (p:=[]) (p':=[]) hq).ra0 (h.env t)
 mem k cs' hk hn2:=by
  rcases hm k with ⟨h1,_⟩|⟨cs,cs1,h1,h2,h3,h4⟩
  ·have hk':mem' k=some cs':=hk
   rw [h1] at hk';cases hk'
  ·have hk':mem' k=some cs':=hk
   rw [h2] at hk'
   obtain rfl:=Option.some.inj hk'
   obtain ⟨arr,e,ha,hb,hcap,hc⟩:=h.mem k cs h1 (by rintro rfl;exact hn2 (List.length_eq_zero_iff.1 (by rw [h3];rfl)))
   refine ⟨arr,e,ha,by rw [zgs];show Option.map φ (G.own (G.β k))=_;rw [hb,Option.map_some,hφ.box],hcap,by rw [h3];exact hc.1,fun j c hj=>?_⟩
   rw [h3]
   rcases h4 j c hj with rfl | ⟨hj',hq⟩
   ·have hlt:j < (arr.toList.take cs.length).length:=by
     rw [hc.1,← h3]
     rcases Nat.lt_or_ge j cs1.length with hl | hl
     ·exact hl
     ·rw [List.getElem?_eq_none hl] at hj;cases hj
    exact ⟨_,List.getElem?_eq_getElem hlt,trivial⟩
   ·obtain ⟨x,hx,hr⟩:=hc.2 j c hj'
    exact ⟨x,hx,(hφ.hands G w (o:=.cell k) (p:=[0+j]) (p':=[0+j]) (by simpa using hq)).rc0 hr⟩
 live k:=by
  rw [show (Ev.ren G φ).live k=G.live k from rfl,h.live k]
  rcases hm k with ⟨h1,h2⟩|⟨cs,cs1,h1,h2,_⟩
  ·simp only [h1,h2]
  ·simp only [h1,h2];simp
 dep k hk:=h.dep k hk
 wf b t hb:=by
  rw [zgs] at hb
  cases ho:G.own b with
  | none=>rw [ho] at hb;cases hb
  | some t0=>exact h.wf b t0 ho
 wfb b k hb:=by
  rw [zgs] at hb
  cases ho:G.own b with
  | none=>rw [ho] at hb;cases hb
  | some t0 =>
   rw [ho] at hb
   simp only [Option.map_some,Option.some.injEq] at hb
   cases t0 with
   | foreign=>rw [hφ.foreign] at hb;cases hb
   | box k'=>rw [hφ.box] at hb;cases hb;exact h.wfb b k ho
   | «at» o p=>obtain ⟨o',p',he⟩:=hφ.at_ o p;rw [he] at hb;cases hb
 wfc b k p hb:=by
  rw [zgs] at hb
  cases ho:G.own b with
  | none=>rw [ho] at hb;cases hb
  | some t0 =>
   rw [ho] at hb
   simp only [Option.map_some,Option.some.injEq] at hb
   cases t0 with
   | foreign=>rw [hφ.foreign] at hb;cases hb
   | box k'=>rw [hφ.box] at hb;cases hb
   | «at» o p =>
    rcases hnew o p k _ hb with ⟨k',rfl,rfl⟩ | hl
    ·exact h.wfc b _ p ho
    ·exact hl
 age:=h.age
 fut:=h.fut
 aged b t hb:=by
  rw [zgs] at hb
  cases ho:G.own b with
  | none=>rw [ho] at hb;cases hb
  | some t0 =>
   rw [ho] at hb
   simp only [Option.map_some,Option.some.injEq] at hb
   subst hb
   exact ha b t0 ho
 jump:=h.jump
theorem Sim.ren {d N:Nat} {G:Gh} {σ:St} {w:World} {tm:Array Value} (h:Sim d N G σ tm w) {φ:Tag→Tag} (hφ:RenOK d φ) (env':Nat→AV) (mem':Mem)
 (he:∀ t,env' t=.dead∨(env' t=σ.env t∧∀ q,φ (.at (.slot d t) q)=.at (.slot d t) q))
 (hm:∀ k,(mem' k=none∧σ.mem k=none)∨∃ cs cs',σ.mem k=some cs∧mem' k=some cs'∧cs'.length=cs.length ∧
  ∀ (i:Nat) c',cs'[i]?=some c'→c'=.dead∨(cs[i]?=some c'∧∀ q,φ (.at (.cell k) (i :: q))=.at (.cell k) (i :: q)))
 (hnew:∀ o p k q,φ (.at o p)=.at (.cell k) q→(∃ k',o=.cell k'∧k'=k)∨G.live k):Sim d N (Ev.ren G φ) { env:=env',mem:=mem' } tm w :=
 h.renG hφ.toRenW (fun b t ho=>Nat.le_trans (hφ.tagdep t) (h.aged b t ho)) env' mem' he hm hnew

theorem Sim.memSame {σ:St} (φ:Tag→Tag) (hc:∀ k q,φ (.at (.cell k) q)=.at (.cell k) q):∀ k,(σ.mem k=none∧σ.mem k=none)∨∃ cs cs',σ.mem k=some cs∧σ.mem k=some cs'∧cs'.length=cs.length ∧
      ∀ (i:Nat) c',cs'[i]?=some c'→c'=C.dead∨(cs[i]?=some c'∧∀ q,φ (.at (.cell k) (i :: q))=.at (.cell k) (i :: q)):=by
 intro k
 cases hk:σ.mem k with
 | none=>exact .inl ⟨rfl,rfl⟩
 | some cs=>exact .inr ⟨cs,cs,rfl,rfl,rfl,fun i c' hc'=>.inr ⟨hc',fun q=>hc k _⟩⟩

def mvT (o o':Ow):Tag→Tag
 | .at x p=>if x=o then .at o' p else .at x p
 | t=>t

theorem mvT_ok {d:Nat} {o o':Ow} (h:touch d (some (.at o []))) (hd:o'.dep d≤o.dep d):RenOK d (mvT o o') where
 dp x p:=by
  simp only [mvT]
  split
  ·rename_i hx;subst hx;exact hd
  ·exact Nat.le_refl _
 box _:=rfl
 foreign:=rfl
 at_ x p:=by
  by_cases hx:x=o
  ·exact ⟨o',p,by simp [mvT,hx]⟩
  ·exact ⟨x,p,by simp [mvT,hx]⟩
 keep t ht:=by
  cases t with
  | foreign=>rfl
  | box k=>rfl
  | «at» x p =>
   simp only [mvT]
   split
   ·rename_i hx
    subst hx
    exfalso;apply ht
    cases x <;> exact h
   ·rfl

theorem Sim.mv {d N:Nat} {G:Gh} {σ:St} {w:World} {tm:Array Value} (h:Sim d N G σ tm w) (t t':Nat) :
 ∃ G',Sim d N G' { σ with env:=upd σ.env t .dead } tm w∧RA w G' (.slot d t') (σ.env t) (tm.getD t undef)∧Frm d G w G' w:=by
 have hφ:RenOK d (mvT (.slot d t) (.slot d t')):=mvT_ok (Nat.le_refl d) (Nat.le_refl d)
 refine ⟨Ev.ren G (mvT (.slot d t) (.slot d t')),h.ren hφ _ _ (fun t2=>?_) (Sim.memSame _ fun k q=>by simp [mvT]) ?_,?_,hφ.frm G w⟩
 ·by_cases ht:t2=t
  ·left;simp [upd,ht]
  ·right
   refine ⟨by simp [upd,ht],fun q=>?_⟩
   simp [mvT,ht]
 ·intro o p k q hq
  left
  simp only [mvT] at hq
  split at hq
  ·cases hq
  ·simp only [Tag.at.injEq] at hq;exact ⟨k,hq.1,rfl⟩
 ·exact (hφ.hands G w (p:=[]) (p':=[]) (fun q=>by simp [mvT])).ra0 (h.env t)

theorem Sim.take {d N:Nat} {G:Gh} {σ:St} {w:World} {a:Act} (h:Sim d N G σ a.tmps w) (x:Operand) (t':Nat) :
 ∃ G',Sim d N G' { σ with env:=Ev.kil σ.env x } a.tmps w∧RA w G' (.slot d t') (Ev.opnd σ.env x) (a.eval x)∧Frm d G w G' w:=by
 cases x with
 | tmp t=>exact h.mv t t'
 | const v=>exact ⟨G,h,zjj v,Frm.refl _ _ _⟩
 | global g=>exact ⟨G,h,trivial,Frm.refl _ _ _⟩
 | func f=>exact ⟨G,h,⟨fun c hc=>(List.not_mem_nil hc).elim,#[],rfl,rfl⟩,Frm.refl _ _ _⟩

def OpOK (P:Program) (d N:Nat) (G:Gh) (w:World) (a:Act) (o:Oper) (σ':St) (v:AV):Prop :=
 ∃ r w' G',((execOp a.eval o).run P w=.ok (.value r) w'∨((execOp a.eval o).run P w=.ok .skip w'∧r=undef))∧Frm d G w G' w' ∧
  Sim d N G' { σ' with env:=putD σ'.env o.dst v } (a.put o.dst r).tmps w'

theorem OpOK.mk {P:Program} {d N:Nat} {G:Gh} {w:World} {a:Act} {o:Oper} {σ':St} {v:AV} {G':Gh} {r:Value} {w':World} (hd:o.dst.all (· < N)=true)
 (hrun:(execOp a.eval o).run P w=.ok (.value r) w') (hF:Frm d G w G' w') (hS:Sim d N G' σ' a.tmps w') (hv:∀ t,o.dst=some t→RA w' G' (.slot d t) v r):OpOK P d N G w a o σ' v :=
 ⟨r,w',G',.inl hrun,hF,hS.put hd hv⟩

section
variable {P:Program} {d N:Nat} {G:Gh} {σ:St} {w:World} {a:Act} {dst:Option Nat} {ty:TypeId} {pos:String} {after:Array Edge} {guard:Option (Nat × Bool)}

theorem ok_move (h:Sim d N G σ a.tmps w) (hd:dst.all (· < N)=true) (x:Operand) :
 OpOK P d N G w a { dst,op:=.move x,type:=ty,pos,after,guard } σ (opnd σ.env x).copy :=
 OpOK.mk hd rfl (Frm.refl _ _ _) h fun t _=>RA_copy (h.opnd x)

theorem ok_take (h:Sim d N G σ a.tmps w) (hd:dst.all (· < N)=true) (x:Operand) (op:Op) (hop:op=.move x∨op=.assign x) :
 OpOK P d N G w a { dst,op,type:=ty,pos,after,guard } { σ with env:=kil σ.env x } (opnd σ.env x):=by
 have hrun:(execOp a.eval { dst,op,type:=ty,pos,after,guard }).run P w=.ok (.value (a.eval x)) w:=by
  rcases hop with rfl | rfl <;> rfl
 cases dst with
 | none =>
  obtain ⟨G',hS,_,hF⟩:=h.take x 0
  exact OpOK.mk hd hrun hF hS (fun _ ht=>by cases ht)
 | some t =>
  obtain ⟨G',hS,hR,hF⟩:=h.take x t
  exact OpOK.mk hd hrun hF hS (fun _ ht=>by cases ht;exact hR)

theorem zmn {G:Gh} {o:Ow} {x:AV} {v:Value} {b:Bool} (hb:toBool x=some b) (h:RA w G o x v):v=.bool b:=by
 unfold toBool at hb
 split at hb
 ·cases hb;exact h.1
 ·cases hb

theorem zgz {G:Gh} {o:Ow} {x:AV} {v:Value} {n:Int} (hb:toInt x=some n) (h:RA w G o x v):v=.int .i64 n:=by
 unfold toInt at hb
 split at hb
 ·cases hb;exact h.1
 ·cases hb

theorem ok_pick (h:Sim d N G σ a.tmps w) (hd:dst.all (· < N)=true) (c x y:Operand) {b:Bool} (hb:toBool (opnd σ.env c)=some b) :
 OpOK P d N G w a { dst,op:=.pick c x y,type:=ty,pos,after,guard } σ (opnd σ.env (if b then x else y)).copy:=by
 have hc:=zmn hb (h.opnd c)
 refine OpOK.mk (r:=a.eval (if b then x else y)) hd ?_ (Frm.refl _ _ _) h fun t _=>RA_copy (h.opnd _)
 simp only [execOp,hc,asBool]
 cases b <;> rfl

theorem zon {α:Type}:∀ (s:Sem α) (x:α),pureOf P s=some x→∀ w:World,s.run P w=.ok x w
 | .pure a,x,h,w=>by rw [pureOf] at h;cases h;rfl
 | .program k,x,h,w=>by rw [pureOf] at h;exact zon (k P) x h w
 | .load ..,x,h,w=>by simp [pureOf] at h
 | .store ..,x,h,w=>by simp [pureOf] at h
 | .new ..,x,h,w=>by simp [pureOf] at h
 | .shape ..,x,h,w=>by simp [pureOf] at h
 | .freeze ..,x,h,w=>by simp [pureOf] at h
 | .frozen ..,x,h,w=>by simp [pureOf] at h
 | .getObj ..,x,h,w=>by simp [pureOf] at h
 | .setObj ..,x,h,w=>by simp [pureOf] at h
 | .choose ..,x,h,w=>by simp [pureOf] at h
 | .sys ..,x,h,w=>by simp [pureOf] at h
 | .mark ..,x,h,w=>by simp [pureOf] at h
 | .halt ..,x,h,w=>by simp [pureOf] at h

theorem svals_ok {G:Gh} {o:Ow} {p:List Nat}:∀ {cs:List C} {us vs:List Value} {i:Nat},cs.mapM C.sval=some us→RCs w G o p i cs vs→vs=us
 | [],us,vs,i,h,hr=>by
  simp at h
  subst h
  exact List.length_eq_zero_iff.1 hr.1
 | c :: cs,us,[],i,h,hr=>by have:=hr.1;simp at this
 | c :: cs,us,v :: vs,i,h,hr=>by
  rw [List.mapM_cons] at h
  simp only [bind,Option.bind_eq_some_iff,pure,Option.some.injEq] at h
  obtain ⟨u,hu,us',hus,rfl⟩:=h
  obtain ⟨x,hx,hrc⟩:=hr.2 0 c rfl
  cases hx
  have hv:v=u:=by
   cases c with
   | s y=>simp only [C.sval,Option.some.injEq] at hu;rw [← hu];exact hrc.1
   | _=>simp [C.sval] at hu
  have:=svals_ok (i:=i+1) hus (vs:=vs) ⟨by simpa using hr.1,fun j c' hj=>by
   obtain ⟨y,hy,hr'⟩:=hr.2 (j+1) c' hj
   exact ⟨y,hy,by rw [show i+1+j=i+(j+1) by omega];exact hr'⟩⟩
  rw [hv,this]

theorem sclr_ok {G:Gh} {o:Ow} {x:AV} {v:Value} (h:RA w G o x v) {u:Value} (hu:sclr x=some u):v=u:=by
 unfold sclr at hu
 split at hu
 ·cases hu;exact h.1
 ·rw [Option.map_eq_some_iff] at hu
  obtain ⟨us,hus,rfl⟩:=hu
  obtain ⟨vs,rfl,hr⟩:=h
  have:=svals_ok hus hr
  rw [← this]
 ·cases hu

theorem ok_scalar (h:Sim d N G σ a.tmps w) {o:Oper} (hd:o.dst.all (· < N)=true) (hs:∀ cs b,o.op≠.select cs b) {v:Value} (hv:scalarOp P σ.env o=some v) :
 OpOK P d N G w a o σ (.one (.s v)):=by
 unfold scalarOp at hv
 split at hv
 ·rename_i hall
  split at hv
  ·rename_i v' hp
   split at hv
   ·rename_i hsc
    cases hv
    have he:execOp a.eval o=execOp (fun x=>(sclr (opnd σ.env x)).getD undef) o:=by
     refine execOp_congr o hs fun x hx=>?_
     have hx':=Array.all_eq_true'.1 hall x hx
     obtain ⟨u,hu⟩:=Option.isSome_iff_exists.1 hx'
     rw [hu]
     exact sclr_ok (h.opnd x) hu
    refine OpOK.mk (r:=v) hd ?_ (Frm.refl _ _ _) h fun t _=>⟨rfl,hsc⟩
    rw [he]
    exact zon _ _ hp w
   ·cases hv
  ·cases hv
 ·cases hv

end
end Go.Ev

