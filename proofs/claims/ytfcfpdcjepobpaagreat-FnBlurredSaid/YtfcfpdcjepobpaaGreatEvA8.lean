import Derived.Test.YtfcfpdcjepobpaaGreatEvA7
import Derived.IntWalk
import Derived.Below
import Derived.Laws.AppendOwn
import Derived.Laws.OwnMore
import Derived.Sort.Row
import Derived.Lib.Bytealg
import Derived.Sort.LotA
import Derived.Shelf.SlSortCmp.Insertion
import Derived.Maps.AppendAt
import Derived.OwnWalk
import Derived.Test.YtfcfpdcjepobpaaGreatProg
import Derived.WalkKit
import Derived.Deep.RegionWith
import Derived.Deep.Cut
import Derived.Deep.LoopGhost
import Derived.Sort.OwnSorted
set_option linter.unusedSimpArgs false
set_option linter.unusedVariables false
set_option linter.unnecessarySimpa false
noncomputable section
namespace Go.Ev
def idxAV (P:Program) (t:TypeId) (X Y:AV):Option Value :=
 if (sclr X).isSome && (sclr Y).isSome then
  match pureOf P (Instr.index t ((sclr X).getD undef) ((sclr Y).getD undef)) with
  | some v=>if scal v then some v else none
  | none=>none
 else none
theorem opE_index (g:Cfg) (d f:Nat) (σ:St) (dst:Option Nat) (pos:String) (after:Array Edge) (ty:TypeId) (guard:Option (Nat × Bool)) (t:Nat) (x y:Operand) :
 opE g d f { dst,op:=.index t x y,type:=ty,pos,after,guard } σ=(idxAV g.P t (opnd σ.env x) (opnd σ.env y)).map fun v=>(.one (.s v),σ):=by
 have:scalarOp g.P σ.env { dst,op:=.index t x y,type:=ty,pos,after,guard }=idxAV g.P t (opnd σ.env x) (opnd σ.env y):=by
  unfold scalarOp idxAV
  have h1:(Op.index t x y).operands.all (fun x=>(sclr (opnd σ.env x)).isSome)=((sclr (opnd σ.env x)).isSome && (sclr (opnd σ.env y)).isSome):=by
   simp [Op.operands]
  simp only [h1]
  split
  ·simp only [execOp,zcp]
   cases h2:pureOf g.P (Instr.index t ((sclr (opnd σ.env x)).getD undef) ((sclr (opnd σ.env y)).getD undef)) with
   | none=>simp
   | some v=>rfl
  ·rfl
 simp only [opE,this]
 cases idxAV g.P t (opnd σ.env x) (opnd σ.env y) <;> rfl
theorem s_index {g:Cfg} {d f:Nat} (dst:Option Nat) (pos:String) (after:Array Edge) (ty:TypeId) (guard:Option (Nat × Bool)) (t:Nat) (ops:Array Oper) (l:List Oper) (K:List It) (σ:St) (x y:Operand) :
 stK g d f ops { dst,op:=.index t x y,type:=ty,pos,after,guard } l K σ=putK g d f ops dst l K ((idxAV g.P t (opnd σ.env x) (opnd σ.env y)).map fun v=>(.one (.s v),σ)):=by
 rw [st_op _ _ _ _ _ (by simp),opE_index]
section
variable (P:Program) (t:TypeId) (x y:Operand) (a b:Int)
@[simp] theorem tb_ltU:binAV P .lss t x y (.one (.s (.int .u8 a))) (.one (.s (.int .u8 b)))=some (.bool (ltI a b)):=by
 simp [binAV,sclr,eqGuard,binOp,Op.intCmp,pureOf,pure,bind,Sem.bind,scal,ltI]
@[simp] theorem tb_gtU:binAV P .gtr t x y (.one (.s (.int .u8 a))) (.one (.s (.int .u8 b)))=some (.bool (ltI b a)):=by
 simp [binAV,sclr,eqGuard,binOp,Op.intCmp,pureOf,pure,bind,Sem.bind,scal,ltI]
@[simp] theorem tb_leU:binAV P .leq t x y (.one (.s (.int .u8 a))) (.one (.s (.int .u8 b)))=some (.bool (leI a b)):=by
 simp [binAV,sclr,eqGuard,binOp,Op.intCmp,pureOf,pure,bind,Sem.bind,scal,leI]
@[simp] theorem tb_geU:binAV P .geq t x y (.one (.s (.int .u8 a))) (.one (.s (.int .u8 b)))=some (.bool (leI b a)):=by
 simp [binAV,sclr,eqGuard,binOp,Op.intCmp,pureOf,pure,bind,Sem.bind,scal,leI]
@[simp] theorem tb_eqU:binAV P .eql t x y (.one (.s (.int .u8 a))) (.one (.s (.int .u8 b)))=some (.bool (eqI a b)):=by
 simp [binAV,sclr,eqGuard,binOp,Op.intCmp,pureOf,pure,bind,Sem.bind,scal,eqI]
 rfl
@[simp] theorem tb_neU:binAV P .neq t x y (.one (.s (.int .u8 a))) (.one (.s (.int .u8 b)))=some (.bool (neI a b)):=by
 simp [binAV,sclr,eqGuard,binOp,Op.intCmp,pureOf,pure,bind,Sem.bind,scal,neI]
 by_cases h:a=b <;> simp [h]
end
attribute [simp] s_index
def sub? (s:ByteArray) (l h:Int):Option ByteArray:=if 0≤l∧l≤h∧h≤s.size then some (s.extract l.toNat h.toNat) else none
def slAV (P:Program) (t:TypeId) (X L H:AV):Option Value :=
 if (sclr X).isSome && ((sclr L).isSome && (sclr H).isSome) then
  match pureOf P (Instr.sliceAt t ((sclr X).getD undef) (some ((sclr L).getD undef)) (some ((sclr H).getD undef)) none) with
  | some v=>if scal v then some v else none
  | none=>none
 else none
@[simp] theorem scalar_slice (P:Program) (env:Nat→AV) (dst:Option Nat) (pos:String) (after:Array Edge) (ty:TypeId) (guard:Option (Nat × Bool)) (t:Nat) (x y z:Operand) :
 scalarOp P env { dst,op:=.slice t x (some y) (some z) none,type:=ty,pos,after,guard }=slAV P t (opnd env x) (opnd env y) (opnd env z):=by
 unfold scalarOp slAV
 have h1:(Op.slice t x (some y) (some z) none).operands.all (fun x=>(sclr (opnd env x)).isSome)=((sclr (opnd env x)).isSome && ((sclr (opnd env y)).isSome && (sclr (opnd env z)).isSome)):=by
  simp [Op.operands,Bool.and_assoc]
 simp only [h1]
 split
 ·simp only [execOp,zcp,Option.map_some,Option.map_none]
  generalize pureOf P (Instr.sliceAt t ((sclr (opnd env x)).getD undef) (some ((sclr (opnd env y)).getD undef)) (some ((sclr (opnd env z)).getD undef)) none)=q
  cases q with
  | none=>rfl
  | some v=>rfl
 ·rfl
theorem sl_str {P:Program} {t:TypeId} {s r:ByteArray} {l h:Int} (hu:P.underlying t=some .string) (hs:sub? s l h=some r):slAV P t (.one (.s (.string s))) (.one (.s (.int .i64 l))) (.one (.s (.int .i64 h)))=some (.string r):=by
 unfold sub? at hs
 split at hs
 ·rename_i hc
  obtain ⟨h0,h1,h2⟩:=hc
  cases hs
  have h3:=zfj hu
  have e1:(0≤h∧h≤(s.size:Int)):=⟨by omega,h2⟩
  have e2:(0≤l∧l≤((h.toNat:Nat):Int)):=⟨h0,by omega⟩
  simp [slAV,sclr,Instr.sliceAt,Instr.slice,Instr.sliceBounds,Instr.sliceBound,zcp,asIntOf,pureOf,pure,h3,e1,e2,scal]
  rw [if_pos (by omega)]
  rfl
 ·cases hs
def catS (a b:ByteArray):Option ByteArray:=if a.size+b.size≤1000000000 then some (a ++ b) else none
theorem cat_str {P:Program} {t:TypeId} {a b r:ByteArray} (h:catS a b=some r) (x y:Operand):binAV P .add t x y (.one (.s (.string a))) (.one (.s (.string b)))=some (.string r):=by
 unfold catS at h
 split at h
 ·rename_i hc
  cases h
  have:¬ (((a.size+b.size:Nat):Int) > IntKind.i64.max):=by
   show ¬ (((a.size+b.size:Nat):Int) > 9223372036854775807)
   omega
  simp [binAV,sclr,eqGuard,binOp,Op.stringOp,pureOf,pure,bind,Sem.bind,scal]
  rw [if_neg (by simpa using this)]
  rfl
 ·cases h
end Go.Ev


namespace Go.Ev
open Go
def andI (a b:Int):Int:=IntKind.i64.wrap (BitVec.ofInt 64 a &&& BitVec.ofInt 64 b).toNat
def xorI (a b:Int):Int:=IntKind.i64.wrap (BitVec.ofInt 64 a ^^^ BitVec.ofInt 64 b).toNat
def shrI (a n:Int):Int:=a.fdiv (2 ^ min n.toNat 64)
def remQ (a b:Int):Option Int:=if b=0 then none else some (a.tmod b)
def cvtI (a:Int):Int:=IntKind.i64.wrap a
section
variable (P:Program) (t:TypeId) (x y:Operand) (a b:Int)
@[simp] theorem tb_and:binAV P .and t x y (vI a) (vI b)=some (.int .i64 (andI a b)):=by
 have:binAV P .and t x y (vI a) (vI b)=some (.int .i64 (IntKind.i64.wrap (BitVec.ofInt 64 a &&& BitVec.ofInt 64 b).toNat)):=by
  simp only [binAV,sclr,eqGuard,binOp,Op.intBits,pureOf,pure,bind,Sem.bind,scal,IntKind.bits,Option.isSome_some,Bool.and_self,if_true,Option.getD_some,ne_eq,not_true_eq_false,if_false,ite_self,Sem.bind]
  try rfl
 exact this
@[simp] theorem tb_xor:binAV P .xor t x y (vI a) (vI b)=some (.int .i64 (xorI a b)):=by
 have:binAV P .xor t x y (vI a) (vI b)=some (.int .i64 (IntKind.i64.wrap (BitVec.ofInt 64 a ^^^ BitVec.ofInt 64 b).toNat)):=by
  simp only [binAV,sclr,eqGuard,binOp,Op.intBits,pureOf,pure,bind,Sem.bind,scal,IntKind.bits,Option.isSome_some,Bool.and_self,if_true,Option.getD_some,ne_eq,not_true_eq_false,if_false,ite_self,Sem.bind]
  try rfl
 exact this
theorem tb_rem {a b c:Int} (h:remQ a b=some c):binAV P .rem t x y (vI a) (vI b)=some (.int .i64 c):=by
 unfold remQ at h
 split at h
 ·cases h
 ·rename_i hb
  cases h
  simp [binAV,sclr,eqGuard,binOp,Op.intDiv,pureOf,pure,bind,Sem.bind,scal,hb]
@[simp] theorem tb_shr (n:Int) (h:¬ n < 0):binAV P .shr t x y (vI a) (.one (.s (.int .u64 n)))=some (.int .i64 (shrI a n)):=by
 simp [binAV,sclr,eqGuard,binOp,Op.shift,pureOf,pure,bind,Sem.bind,scal,h,shrI,IntKind.bits]
end
def cvtAV (P:Program) (s t:TypeId) (X:AV):Option Value :=
 if (sclr X).isSome then
  match pureOf P (convert s t ((sclr X).getD undef)) with
  | some v=>if scal v then some v else none
  | none=>none
 else none
section
variable {g:Cfg} {d f:Nat} (dst:Option Nat) (pos:String) (after:Array Edge) (ty:TypeId) (guard:Option (Nat × Bool)) (s t:Nat) (ops:Array Oper) (l:List Oper) (K:List It) (σ:St)
@[simp] theorem s_conv (x:Operand):stK g d f ops { dst,op:=.convert s t x,type:=ty,pos,after,guard } l K σ=putK g d f ops dst l K ((cvtAV g.P s t (opnd σ.env x)).map fun v=>(.one (.s v),σ)):=by
 rw [st_op _ _ _ _ _ (by simp)]
 congr 1
 have:scalarOp g.P σ.env { dst,op:=.convert s t x,type:=ty,pos,after,guard }=cvtAV g.P s t (opnd σ.env x):=by
  unfold scalarOp cvtAV
  have h1:(Op.convert s t x).operands.all (fun x=>(sclr (opnd σ.env x)).isSome)=(sclr (opnd σ.env x)).isSome:=by
   simp [Op.operands]
  simp only [h1]
  split
  ·simp only [execOp,zcp]
   cases h2:pureOf g.P (convert s t ((sclr (opnd σ.env x)).getD undef)) with
   | none=>simp
   | some v=>rfl
  ·rfl
 simp only [opE,this]
 cases cvtAV g.P s t (opnd σ.env x) <;> rfl
end
theorem zpd {P:Program} {s t:TypeId} (hs:P.underlying s=some (.int .u8)) (ht:P.underlying t=some (.int .i64)) (a:Int):cvtAV P s t (.one (.s (.int .u8 a)))=some (.int .i64 (cvtI a)):=by
 have h1:=zfj hs
 have h2:=zfj ht
 simp [cvtAV,sclr,convert,zcp,h1,h2,Conv.intToInt,pureOf,pure,scal,cvtI]
theorem andI_255 (a:Int):0≤andI a 255∧andI a 255 < 256:=by
 unfold andI
 have h:(BitVec.ofInt 64 a &&& BitVec.ofInt 64 255).toNat≤255:=by
  rw [BitVec.toNat_and]
  exact Nat.and_le_right
 have:IntKind.i64.wrap ((BitVec.ofInt 64 a &&& BitVec.ofInt 64 255).toNat:Int)=((BitVec.ofInt 64 a &&& BitVec.ofInt 64 255).toNat:Int):=Go.IntWalk.i64_in _ (by omega)
 rw [this]
 omega
end Go.Ev


namespace Go.Ev
open Enc (enc)
theorem at_pos {α:Type} [Enc α] {xs:List α} {n:Int} {x:α} (h:at? xs n=some x) {off:Nat} (ho:off < Enc.sz α):n.toNat * Enc.sz α+off < xs.length * Enc.sz α:=by
 have:=zfq h off (m:=1) (by omega)
 omega
def holeC {α:Type} [Enc α] (xs:List α) (p:Nat) (c:C):List C:=(rowC xs).set p c
section
variable {α:Type} [Enc α]
@[simp] theorem holeC_length (xs:List α) (p:Nat) (c:C):(holeC xs p c).length=xs.length * Enc.sz α:=by unfold holeC;rw [List.length_set,zhy]
@[simp] theorem holeC_kill (q:Key→Bool) (xs:List α) (p:Nat) (c:C):(holeC xs p c).map (C.kill q)=holeC xs p (c.kill q):=by
 unfold holeC
 rw [List.map_set,rowC_kill]
@[simp] theorem holeC_killB (xs:List α) (p:Nat) (c:C):(holeC xs p c).map C.killB=holeC xs p c.killB:=by
 unfold holeC
 rw [List.map_set,zom]
@[simp] theorem rowC_set (xs:List α) (p:Nat) (c:C):(rowC xs).set p c=holeC xs p c:=rfl
@[simp] theorem holeC_set (xs:List α) (p:Nat) (c c':C):(holeC xs p c).set p c'=holeC xs p c':=List.set_set ..
theorem get_of {β:Type} {l:List β} {i:Nat} {x:β} (h:l[i]?=some x):∃ hh:i < l.length,l[i]=x:=List.getElem?_eq_some_iff.1 h
theorem row_get {xs:List α} {n:Int} {x:α} (h:at? xs n=some x) (off:Nat) (ho:off+1≤Enc.sz α) {d:D} (hd:seg (enc x) off 1=some [d]):(rowC xs)[n.toNat * Enc.sz α+off]?=some (C.ofD .own d):=by
 have h1:=seg_row h off 1 ho hd
 unfold seg at h1
 split at h1
 ·rw [Option.some.injEq] at h1
  have:=congrArg List.head? h1
  rw [List.head?_take,if_neg (by omega),List.head?_drop] at this
  simpa using this
 ·cases h1
theorem zmi {xs:List α} {n:Int} {x:α} (h:at? xs n=some x) (off:Nat) (ho:off < Enc.sz α) (c:C):(holeC xs (n.toNat * Enc.sz α+off) c)[n.toNat * Enc.sz α+off]?=some c:=by
 unfold holeC
 rw [List.getElem?_set_self (by rw [zhy];exact at_pos h ho)]
theorem zpr {xs:List α} {n:Int} {x:α} (h:at? xs n=some x) (off:Nat) (ho:off < Enc.sz α) (c:C):seg (holeC xs (n.toNat * Enc.sz α+off) c) (n.toNat * Enc.sz α+off) 1=some [c]:=by
 have hp:=at_pos h ho
 have hg:=zmi h off ho c
 unfold seg
 rw [if_pos (by rw [holeC_length];omega),List.take_one,List.head?_drop,hg]
 rfl
theorem znq {xs:List α} {n:Int} {x:α} (h:at? xs n=some x) (off:Nat) (x':α) {c:C} (he:splice ((enc x).map (C.ofD .own)) off [c]=(enc x').map (C.ofD .own)) (ho:off+1≤Enc.sz α:=by decide):holeC xs (n.toNat * Enc.sz α+off) c=rowC (xs.set n.toNat x'):=by
 rw [← zei h off x' [c] ho he]
 have hp:=at_pos h ho
 have:n.toNat * Enc.sz α+off < (rowC xs).length:=by rw [zhy];exact hp
 unfold holeC splice
 rw [List.set_eq_take_append_cons_drop,if_pos this]
 simp
def rowS (xs:List α):List C:=(encL xs).map (C.ofD .shr)
@[simp] theorem rowS_length (xs:List α):(rowS xs).length=xs.length * Enc.sz α:=by simp [rowS]
@[simp] theorem rowS_take {xs:List α} {n:Nat} (h:xs.length * Enc.sz α≤n):(rowS xs).take n=rowS xs:=by
 rw [List.take_of_length_le];simpa using h
theorem data_ofD (m:Md) (hm:m≠.bor):∀ (d:D),(C.ofD m d).data?=true
 | .sc _=>rfl
 | .sl _ _=>by cases m <;> first | rfl | exact absurd rfl hm
theorem lend_ofD1 (m:Md):∀ (d:D),(C.ofD m d).lend=some (C.ofD .shr d)
 | .sc _=>rfl
 | .sl _ _=>rfl
@[simp] theorem dataAll_nil:dataAll []=true:=rfl
@[simp] theorem dataAll_cons (c:C) (cs:List C):dataAll (c :: cs)=(c.data? && dataAll cs):=rfl
@[simp] theorem rowC_data (xs:List α):dataAll (rowC xs)=true:=by
 unfold dataAll rowC
 rw [List.all_map,List.all_eq_true]
 exact fun d _=>data_ofD .own (by simp) d
@[simp] theorem rowC_lend (xs:List α):(rowC xs).mapM C.lend=some (rowS xs):=by
 unfold rowC rowS
 generalize encL xs=l
 induction l with
 | nil=>rfl
 | cons d l ih=>rw [List.map_cons,List.mapM_cons,lend_ofD1,List.map_cons];simp only [bind,Option.bind_some,ih];rfl
@[simp] theorem rowS_toD (xs:List α):(rowS xs).mapM C.toD=some (encL xs):=zmh .shr _
@[simp] theorem rowS_kill (p:Key→Bool) (xs:List α):(rowS xs).map (C.kill p)=rowS xs:=by
 unfold rowS
 rw [List.map_map]
 exact List.map_congr_left fun d _=>kill_ofD p .shr d
@[simp] theorem rowS_killB (xs:List α):(rowS xs).map C.killB=rowS xs:=by
 unfold rowS
 rw [List.map_map]
 refine List.map_congr_left fun d _=>?_
 cases d <;> rfl
theorem seg_rowS {xs:List α} {n:Int} {x:α} (h:at? xs n=some x) (off m:Nat) (hm:off+m≤Enc.sz α) {ds:List D} (hd:seg (enc x) off m=some ds):seg (rowS xs) (n.toNat * Enc.sz α+off) m=some (ds.map (C.ofD .shr)):=by
 have h1:=seg_at' h off m hm hd
 unfold seg at h1 ⊢
 split at h1
 ·rename_i hle
  rw [if_pos (by rw [rowS_length,← zeu];exact hle)]
  rw [Option.some.injEq] at h1
  unfold rowS
  rw [← List.map_drop,← List.map_take,h1]
 ·cases h1
theorem zms:∀ (xs:List α) (i off:Nat) (x x':α) (new:List C),xs[i]?=some x→off+new.length≤Enc.sz α→splice ((enc x).map (C.ofD .shr)) off new=(enc x').map (C.ofD .shr)→splice (rowS xs) (i * Enc.sz α+off) new=rowS (xs.set i x')
 | [],i,off,x,x',new,h,_,_=>by simp at h
 | y :: ys,0,off,x,x',new,h,hm,he=>by
  simp only [List.getElem?_cons_zero,Option.some.injEq] at h
  subst h
  unfold rowS
  rw [List.set_cons_zero,zbj,zbj,List.map_append,List.map_append,← he]
  unfold splice
  have hl:((enc y).map (C.ofD .shr)).length=Enc.sz α:=by rw [List.length_map,Enc.len]
  rw [Nat.zero_mul,Nat.zero_add,List.take_append_of_le_length (by omega),List.drop_append_of_le_length (by omega)]
  simp
 | y :: ys,i+1,off,x,x',new,h,hm,he=>by
  have ih:=zms ys i off x x' new (by simpa using h) hm he
  unfold rowS at ih ⊢
  rw [List.set_cons_succ,zbj,zbj,List.map_append,List.map_append,← ih]
  unfold splice
  have hl:((enc y).map (C.ofD .shr)).length=Enc.sz α:=by rw [List.length_map,Enc.len]
  have e:(i+1) * Enc.sz α+off=((enc y).map (C.ofD .shr)).length+(i * Enc.sz α+off):=by rw [hl,Nat.add_mul,Nat.one_mul];omega
  rw [e,List.take_length_add_append,Nat.add_assoc,List.drop_length_add_append]
  simp
theorem splice_rowS {xs:List α} {n:Int} {x:α} (h:at? xs n=some x) (off:Nat) (x':α) (new:List C) (hm:off+new.length≤Enc.sz α) (he:splice ((enc x).map (C.ofD .shr)) off new=(enc x').map (C.ofD .shr)) :
 splice (rowS xs) (n.toNat * Enc.sz α+off) new=rowS (xs.set n.toNat x'):=by
 have h0:=at_lo h
 unfold at? at h
 rw [if_pos h0] at h
 exact zms xs _ off x x' new h hm he
theorem rowS_top {xs:List α} {n:Int} {x:α} (h:at? xs n=some x) (x':α) {off m:Nat} {cs:List D} (hd:seg (enc x') off 1=some [.sl m cs]):modeOf (rowS (xs.set n.toNat x'))=some .top:=by
 have h0:=at_lo h
 unfold at? at h
 rw [if_pos h0] at h
 have hlt:n.toNat < xs.length:=by
  rcases Nat.lt_or_ge n.toNat xs.length with h1 | h1
  ·exact h1
  ·rw [List.getElem?_eq_none h1] at h;cases h
 have hmem:x'∈xs.set n.toNat x':=List.mem_set hlt x'
 have hin:D.sl m cs∈enc x':=by
  unfold seg at hd
  split at hd
  ·rw [Option.some.injEq] at hd
   have:D.sl m cs∈((enc x').drop off).take 1:=by rw [hd];simp
   exact List.mem_of_mem_drop (List.mem_of_mem_take this)
  ·cases hd
 have hin2:D.sl m cs∈encL (xs.set n.toNat x'):=by
  generalize xs.set n.toNat x'=l at hmem
  induction l with
  | nil=>cases hmem
  | cons y l ih =>
   rw [zbj]
   rcases List.mem_cons.1 hmem with rfl | hm
   ·exact List.mem_append_left _ hin
   ·exact List.mem_append_right _ (ih hm)
 unfold modeOf
 have h1:(rowS (xs.set n.toNat x')).all C.ownD=false:=by
  rw [List.all_eq_false]
  refine ⟨C.ofD .shr (.sl m cs),List.mem_map.2 ⟨_,hin2,rfl⟩,?_⟩
  simp [C.ofD,C.ownD]
 have h2:(rowS (xs.set n.toNat x')).all C.shrD=true:=by
  rw [List.all_eq_true]
  intro c hc
  obtain ⟨d,_,rfl⟩:=List.mem_map.1 hc
  cases d <;> rfl
 rw [h1,h2]
 rfl
end
end Go.Ev


namespace Go.Ev
open Go.RowKit

theorem zjf {w w':World} (hb:Below w.heap.size w w') (hs:w.heap.size≤w'.heap.size):Kept w w' :=
 ⟨⟨hb.os,hb.tape,hb.output⟩,fun a h=>⟨Nat.lt_of_lt_of_le h hs,hb.frozen h⟩⟩

def ghRow (G:Gh) (b n:Nat):Gh:={ G with own:=fun x=>if x=b then some (.at .ret []) else G.own x,use:=fun x=>if x=b then n else G.use x }

theorem row_back {w w':World} {G:Gh} {e:TypeId} {n sz:Nat} {vs:List Value} {v':Value} (h:w'.ownsRow w.heap.size e sz v' n vs) (hn:0 < n) (hs0:0 < sz) (hl:vs.length=n * sz) (hsc:∀ u∈vs,scal u=true)
 (hw:∀ b t,G.own b=some t→b < w.heap.size) (hsz:w.heap.size≤w'.heap.size) :
 ∃ G',RA w' G' .ret (.one (C.ofD .own (.sl n (vs.map D.sc)))) v'∧(∀ b,b < w.heap.size→G'.own b=G.own b∧G'.use b=G.use b)∧∀ b t,G'.own b=some t→b < w'.heap.size:=by
 obtain ⟨_,h⟩:=h
 rcases h with ⟨_,h0⟩|⟨g,cap,cur,rfl,hg,hheap,hcap,hmax,hcur,htake⟩
 ·omega
 ·have hglt:g < w'.heap.size:=by
   rcases Nat.lt_or_ge g w'.heap.size with hlt | hge
   ·exact hlt
   ·simp [Array.getElem?_eq_none hge] at hheap
  have hpos:0 < vs.length:=by rw [hl];exact Nat.mul_pos hn hs0
  refine ⟨ghRow G g vs.length,?_,fun b hb=>?_,fun b t hb=>?_⟩
  ·show RD w' _ .ret .own [] (.sl n (vs.map D.sc)) _
   rw [RD]
   refine .inr ⟨fun h0=>by rw [List.map_eq_nil_iff] at h0;rw [h0] at hpos;simp at hpos,hn,g,0,cap,rfl,hcap,?_,?_⟩
   ·refine ⟨by simp [ghRow],by simp [ghRow],rfl,cur,e,hheap,fun sz' hs=>?_⟩
    have:sz'=sz:=by
     have:n * sz'=n * sz:=by rw [← hl,← List.length_map (f:=D.sc)];exact hs.symm
     exact Nat.eq_of_mul_eq_mul_left hn this
    subst this
    omega
   ·refine zlb fun j d hd=>?_
    rw [List.getElem?_map] at hd
    have hj:j < vs.length:=by
     rcases Nat.lt_or_ge j vs.length with h | h
     ·exact h
     ·rw [List.getElem?_eq_none h] at hd;cases hd
    rw [List.getElem?_eq_getElem hj] at hd
    cases hd
    have hc:cur.toList[j]?=some vs[j]:=by
     have h1:(cur.toList.take (n * sz))[j]?=some vs[j]:=by rw [htake,List.getElem?_eq_getElem hj]
     rw [List.getElem?_take,if_pos (by omega)] at h1
     exact h1
    refine ⟨vs[j],?_,by rw [RD];exact ⟨rfl,hsc _ (List.getElem_mem hj)⟩⟩
    unfold World.cell?
    simp only [hheap,Nat.zero_add]
    rw [← hc]
    simp
  ·have:b≠g:=by omega
   simp [ghRow,this]
  ·simp only [ghRow] at hb
   split at hb
   ·rename_i he;rw [he];exact hglt
   ·exact Nat.lt_of_lt_of_le (hw b t hb) hsz

theorem zpb {w':World} {G:Gh} {a:Option Addr}:RA w' G .ret (.one (C.ofD .own (.sl 0 []))) (.slice a 0 0):=by
 show RD w' G .ret .own [] (.sl 0 []) _
 rw [RD]
 exact .inl ⟨rfl,rfl,a,0,rfl,fun _=>rfl⟩

theorem row_came {w:World} {G:Gh} {o:Ow} {m:Md} {p:List Nat} {n:Nat} {vs:List Value} {v:Value} (h:RD w G o m p (.sl n (vs.map D.sc)) v) :
 (n=0∧vs=[]∧∃ a cap,v=.slice a 0 cap)∨(0 < n∧vs≠[]∧(∀ u∈vs,scal u=true)∧∃ b off cap,v=.slice (some ⟨b,off,none⟩) n cap∧∀ j u,vs[j]?=some u→w.cell? ⟨b,off+j,none⟩=some u):=by
 rw [RD] at h
 rcases h with ⟨h1,h2,a,cap,rfl,_⟩|⟨h1,h2,b,off,cap,rfl,hc,_,hs⟩
 ·exact .inl ⟨h2,List.map_eq_nil_iff.1 h1,a,cap,rfl⟩
 ·have hg:∀ j u,vs[j]?=some u→w.cell? ⟨b,off+j,none⟩=some u∧scal u=true:=fun j u hj=>by
   obtain ⟨x,hx,hr⟩:=zqw hs j (.sc u) (by rw [List.getElem?_map,hj];rfl)
   rw [RD] at hr
   obtain ⟨rfl,hr⟩:=hr
   rw [Nat.zero_add] at hx
   exact ⟨hx,hr⟩
  refine .inr ⟨h2,fun h0=>h1 (by rw [h0];rfl),fun u hu=>?_,b,off,cap,rfl,fun j u hj=>(hg j u hj).1⟩
  obtain ⟨j,hj⟩:=List.mem_iff_getElem?.1 hu
  exact (hg j u hj).2

class FlatE (α:Type) [Enc α] where
 fl:α→List Value
 eq:∀ x:α,Enc.enc x=(fl x).map D.sc
 sc:∀ x:α,∀ u∈fl x,scal u=true
def flL {α:Type} [Enc α] [FlatE α] (xs:List α):List Value:=xs.flatMap FlatE.fl
theorem ziq {α:Type} [Enc α] [FlatE α] (xs:List α):encL xs=(flL xs).map D.sc:=by
 induction xs with
 | nil=>rfl
 | cons x xs ih=>rw [zbj,ih,FlatE.eq];simp [flL]
theorem zln {α:Type} [Enc α] [FlatE α] (xs:List α):(flL xs).length=xs.length * Enc.sz α:=by
 rw [← zeu,ziq,List.length_map]
@[simp] theorem flL_append {α:Type} [Enc α] [FlatE α] (xs ys:List α):flL (xs ++ ys)=flL xs ++ flL ys:=by simp [flL]
instance:FlatE Int:=⟨fun n=>[.int .i64 n],fun _=>rfl,fun _ u h=>by simp at h;subst h;rfl⟩
instance:FlatE Bool:=⟨fun n=>[.bool n],fun _=>rfl,fun _ u h=>by simp at h;subst h;rfl⟩
instance:FlatE ByteArray:=⟨fun n=>[.string n],fun _=>rfl,fun _ u h=>by simp at h;subst h;rfl⟩

def zkl {α:Type} (bytes:Nat) (s:List α):Option (List α):=(room s.length bytes).bind fun _=>some s
theorem one_arg {w:World} {G:Gh} {vals:Array Value} {x:AV} (h:ArgsOK w G [x] vals):∃ v,vals = #[v]∧∀ d t,RA w G (.slot d t) x v:=by
 obtain ⟨h1,h2⟩:=h
 obtain ⟨v,hv,hr⟩:=h2 0 x rfl
 refine ⟨v,?_,hr⟩
 apply Array.ext_getElem?
 intro i
 match i with
 | 0=>rw [hv];rfl
 | i+1=>rw [Array.getElem?_eq_none (by rw [h1];simp)];rfl

theorem pc_clone {P:Program} {f:Nat} {α:Type} [Enc α] [FlatE α] {e:TypeId} {bytes:Nat} (hE:Enters P f)
 (hnil:∀ n c w,Calls P f #[.slice none n c] w fun e w'=>e=.returned (.slice none 0 0)∧w'=w)
 (hzero:∀ a c w,Calls P f #[.slice (some a) 0 c] w fun e w'=>∃ b,e=.returned (.slice b 0 0)∧Below w.heap.size w w')
 (hrow:∀ b off n c (vs:List Value) w,vs.length=n * Enc.sz α→n * bytes≤140737488355328→(∀ u∈vs,scal u=true)→(∀ j u,vs[j]?=some u→w.cell? ⟨b,off+j,none⟩=some u) →
  Calls P f #[.slice (some ⟨b,off,none⟩) n c] w fun e' w'=>∃ v',e'=.returned v'∧w'.ownsRow w.heap.size e (Enc.sz α) v' n vs∧Below w.heap.size w w') :
 PC P f (specP (X:=List α × Unit) fun x=>zkl bytes x.1):=by
 refine ⟨hE,fun args r hr G w vals hG hL hage hA=>?_⟩
 unfold specP at hr
 split at hr
 ·rename_i hx
  obtain ⟨y,hy,rfl⟩:=Option.map_eq_some_iff.1 hr
  have ha:=Classical.choose_spec hx
  generalize Classical.choose hx=x at hy ha
  subst ha
  obtain ⟨xs,_⟩:=x
  simp only [zkl] at hy
  obtain ⟨_,hroom,hy⟩:=Option.bind_eq_some_iff.1 hy
  obtain rfl:xs=y:=by simpa using hy
  have hb:=zbc hroom
  obtain ⟨v,rfl,hv⟩:=one_arg (x:=av .shr xs) hA
  have hv:RD w G (.slot 0 0) .shr [] (.sl xs.length ((flL xs).map D.sc)) v:=by
   have:=hv 0 0
   rw [← ziq]
   exact this
  have hret:Res.res xs=AV.one (C.ofD .own (.sl xs.length ((flL xs).map D.sc))):=by rw [← ziq];rfl
  rw [hret]
  rcases row_came hv with ⟨h1,h2,a,cap,rfl⟩|⟨h1,h2,hsc,b,off,cap,rfl,hc⟩
  ·rw [h1,h2]
   have he:∀ (w':World) (a:Option Addr),Below w.heap.size w w'→∃ v G',Ending.returned (.slice a 0 0)=.returned v∧RA w' G' .ret (.one (C.ofD .own (.sl 0 (([]:List Value).map D.sc)))) v∧w.heap.size≤w'.heap.size∧Kept w w' ∧
    (∀ b,b < w.heap.size→w'.heap[b]?=w.heap[b]?∧G'.own b=G.own b∧G'.use b=G.use b)∧∀ b t,G'.own b=some t→b < w'.heap.size:=fun w' a hb =>
    ⟨_,G,rfl,zpb,hb.size,zjf hb hb.size,fun b hlt=>⟨hb.block b hlt,rfl,rfl⟩,fun b t ho=>Nat.lt_of_lt_of_le (hG b t ho).2 hb.size⟩
   cases a with
   | none=>exact (hnil 0 cap w).mono fun e w' hh=>by obtain ⟨rfl,rfl⟩:=hh;exact he _ _ (Below.refl _ _)
   | some a=>exact (hzero a cap w).mono fun e w' hh=>by obtain ⟨b,rfl,hb⟩:=hh;exact he _ _ hb
  ·have hl:=zln xs
   refine (hrow b off xs.length cap (flL xs) w hl (by have:=Nat.mul_le_mul_left xs.length (Nat.le_succ bytes);rw [← Nat.succ_eq_add_one] at hb;simp only [maxBytes] at hb;omega) hsc hc).mono fun e w' hh=>?_
   obtain ⟨v',rfl,hown,hbel⟩:=hh
   obtain ⟨G',g1,g2,g3⟩:=row_back (G:=G) hown h1 (Enc.pos (α:=α)) hl hsc (fun b t ho=>(hG b t ho).2) hbel.size
   exact ⟨v',G',rfl,g1,hbel.size,zjf hbel hbel.size,fun b hlt=>⟨hbel.block b hlt,g2 b hlt⟩,g3⟩
 ·cases hr

def tot (nn:Nat→Nat):Nat→Nat
 | 0=>0
 | j+1=>tot nn j+nn j
def cat (ne:Nat→List Value):Nat→List Value
 | 0=>[]
 | j+1=>cat ne j ++ ne j
theorem zka (nn:Nat→Nat):∀ {i j},i≤j→tot nn i≤tot nn j
 | i, 0, h => by obtain rfl : i = 0 := by omega
                 exact Nat.le_refl _
 | i,j+1,h=>by
  rcases Nat.lt_or_ge i (j+1) with h' | h'
  ·exact Nat.le_trans (zka nn (i:=i) (j:=j) (by omega)) (Nat.le_add_right _ _)
  ·obtain rfl:i=j+1:=by omega
   exact Nat.le_refl _
def RowAt (w:World) (sz:Nat) (a:Option Addr) (m:Nat) (news:List Value):Prop :=
 news.length=m * sz∧(∀ u∈news,scal u=true)∧(m=0∨∃ b off,a=some ⟨b,off,none⟩∧∀ j u,news[j]?=some u→w.cell? ⟨b,off+j,none⟩=some u)
theorem scal_one {u:Value} (h:scal u=true):u.oneCell'=true:=by cases u <;> first | rfl | cases h

theorem zmd {P:Program} {w w0:World} (base:Nat) (t ty e:TypeId) (i:TypeInfo) (z:Value) (size bytes:Nat) (ht:P.underlying t=some (.slice e)) (hi:P.info? e=some i) (hz:i.zero=some z)
 (hsize:i.size=size) (hby:i.bytes=bytes) (hzs:z.cells.size=size) (hsz:0 < size)
 (v:Value) (n:Nat) (xs:List Value) (hown:w.ownsRow base e size v n xs) (a:Option Addr) (m c:Nat) (news:List Value) (hrow:RowAt w0 size a m news) (hbel:∀ k,k < w0.heap.size→w.heap[k]?=w0.heap[k]?)
 (h63:n+m≤maxLen) (hbytes:(n+m) * bytes≤140737488355328) (hbase:base≤w.heap.size) :
 ∃ v' w',(Builtin.append_ #[t,t] ty #[v,.slice a m c]).run P w=.ok v' w'∧w'.ownsRow base e size v' (n+m) (xs ++ news)∧w.grownBy w' v.ownBlock∧(m=0→v'=v):=by
 obtain ⟨hl,hsc,hr⟩:=hrow
 rcases hr with h0 | ⟨b,off,rfl,hc⟩
 ·subst h0
  have hnews:news=[]:=List.length_eq_zero_iff.1 (by simpa using hl)
  subst hnews
  refine ⟨v,w,?_,by simpa using hown,⟨rfl,rfl,rfl,Nat.le_refl _,fun _ _ _=>rfl⟩,fun _=>rfl⟩
  rcases hown.2 with ⟨rfl,rfl⟩|⟨g,cap,cur,rfl,_,_,hnc,_⟩
  ·exact zff t ty e i ht hi none 0 0 (Nat.le_refl _) a c
  ·exact zff t ty e i ht hi _ n cap hnc a c
 ·rcases Nat.eq_zero_or_pos m with h0 | hm
  ·subst h0
   have hnews:news=[]:=List.length_eq_zero_iff.1 (by simpa using hl)
   subst hnews
   refine ⟨v,w,?_,by simpa using hown,⟨rfl,rfl,rfl,Nat.le_refl _,fun _ _ _=>rfl⟩,fun _=>rfl⟩
   rcases hown.2 with ⟨rfl,rfl⟩|⟨g,cap,cur,rfl,_,_,hnc,_⟩
   ·exact zff t ty e i ht hi none 0 0 (Nat.le_refl _) _ c
   ·exact zff t ty e i ht hi _ n cap hnc _ c
  ·obtain ⟨v',w',h1,h2,h3,_⟩:=run_append_own w base t ty e i z size bytes ht hi hz hsize hby hzs hsz v n xs hown ⟨b,off,none⟩ m c news hl (fun j u hj=>by
    rw [Addr.add_lit]
    have:=hc j u hj
    have hlt:b < w0.heap.size:=World.block_lt_of_cell? _ _ this
    rw [← this]
    exact World.cell?_of_block (hbel b hlt)) (fun u hu=>scal_one (hsc u hu)) h63 hbytes hbase
   exact ⟨v',w',h1,h2,h3,fun h0=>by omega⟩


theorem zpi {a b:Nat} (h:a+b≤maxLen):wrap64 ((a:Int)+(b:Int))=((a+b:Nat):Int):=by
 unfold maxLen at h
 unfold wrap64
 omega


theorem take_snoc {α:Type} {xss:List (List α)} {j:Nat} (h:j < xss.length):(xss.take (j+1)).flatten=(xss.take j).flatten ++ xss.getD j []:=by
 rw [List.take_add_one,List.getElem?_eq_getElem h,List.flatten_append]
 simp [List.getD,List.getElem?_eq_getElem h]
theorem tot_take {α:Type} (xss:List (List α)):∀ j,j≤xss.length→tot (fun i=>(xss.getD i []).length) j=(xss.take j).flatten.length
 | 0,_=>rfl
 | j+1,h=>by rw [tot,tot_take xss j (by omega),take_snoc (by omega),List.length_append]
theorem cat_take {α:Type} [Enc α] [FlatE α] (xss:List (List α)):∀ j,j≤xss.length→cat (fun i=>flL (xss.getD i [])) j=flL (xss.take j).flatten
 | 0,_=>rfl
 | j+1,h=>by rw [cat,cat_take xss j (by omega),take_snoc (by omega),flL_append]
theorem encLL {α:Type} [Enc α] (xss:List (List α)):encL xss=xss.map fun xs=>D.sl xs.length (encL xs):=by
 induction xss with
 | nil=>rfl
 | cons x xs ih=>rw [zbj,ih];rfl

def zjc {α:Type} (bytes:Nat) (s:List (List α)):Option (List α):=(room s.length 24).bind fun _=>(room s.flatten.length bytes).bind fun _=>some s.flatten

theorem pc_concat {P:Program} {f:Nat} {α:Type} [Enc α] [FlatE α] {e:TypeId} {bytes:Nat} (hE:Enters P f)
 (hwalk:∀ (xa:Option Addr) (xb xo N xc:Nat) (ra:Nat→Option Addr) (nn rc:Nat→Nat) (ne:Nat→List Value) (w:World),(0 < N→xa=some ⟨xb,xo,none⟩)→N≤maxLen →
  (∀ j,j < N→w.cell? ⟨xb,xo+j,none⟩=some (.slice (ra j) (nn j) (rc j)))→(∀ j,j < N→RowAt w (Enc.sz α) (ra j) (nn j) (ne j))→tot nn N * bytes≤140737488355328 →
  Calls P f #[.slice xa N xc] w fun e' w'=>∃ v,e'=.returned v∧w'.ownsRow w.heap.size e (Enc.sz α) v (tot nn N) (cat ne N)∧(tot nn N=0→v=.slice none 0 0)∧Below w.heap.size w w') :
 PC P f (specP (X:=List (List α) × Unit) fun x=>zjc bytes x.1):=by
 refine ⟨hE,fun args r hr G w vals hG hL hage hA=>?_⟩
 unfold specP at hr
 split at hr
 ·rename_i hx
  obtain ⟨y,hy,rfl⟩:=Option.map_eq_some_iff.1 hr
  have ha:=Classical.choose_spec hx
  generalize Classical.choose hx=x at hy ha
  subst ha
  obtain ⟨xss,_⟩:=x
  simp only [zjc] at hy
  obtain ⟨_,hroom0,hy⟩:=Option.bind_eq_some_iff.1 hy
  obtain ⟨_,hroom,hy⟩:=Option.bind_eq_some_iff.1 hy
  obtain rfl:xss.flatten=y:=by simpa using hy
  have hb0:=zbc hroom0
  have hb:=zbc hroom
  obtain ⟨v,rfl,hv⟩:=one_arg (x:=av .shr xss) hA
  have hv:RD w G (.slot 0 0) .shr [] (.sl xss.length (encL xss)) v:=hv 0 0
  have hret:Res.res xss.flatten=AV.one (C.ofD .own (.sl xss.flatten.length ((flL xss.flatten).map D.sc))):=by rw [← ziq];rfl
  rw [hret]
  have key:∃ (xa:Option Addr) (xb xo xc:Nat) (ra:Nat→Option Addr) (rc:Nat→Nat),v=.slice xa xss.length xc∧(0 < xss.length→xa=some ⟨xb,xo,none⟩) ∧
   (∀ j,j < xss.length→w.cell? ⟨xb,xo+j,none⟩=some (.slice (ra j) ((xss.getD j []).length) (rc j)))∧(∀ j,j < xss.length→RowAt w (Enc.sz α) (ra j) ((xss.getD j []).length) (flL (xss.getD j []))):=by
   rw [RD] at hv
   rcases hv with ⟨h1,h2,a,cap,rfl,_⟩|⟨h1,h2,b,off,cap,rfl,hcap,_,hs⟩
   ·refine ⟨a,0,0,cap,fun _=>none,fun _=>0,by rw [h2],fun h=>by omega,fun j h=>by omega,fun j h=>by omega⟩
   ·have hg:∀ j,∃ a c,j < xss.length→w.cell? ⟨b,off+j,none⟩=some (.slice a ((xss.getD j []).length) c)∧RowAt w (Enc.sz α) a ((xss.getD j []).length) (flL (xss.getD j [])):=by
     intro j
     by_cases hj:j < xss.length
     ·have hd:(encL xss)[j]?=some (.sl xss[j].length ((flL xss[j]).map D.sc)):=by
       rw [encLL,List.getElem?_map,List.getElem?_eq_getElem hj,Option.map_some,ziq]
      obtain ⟨u,hu,hru⟩:=zqw hs j _ hd
      rw [Nat.zero_add] at hu
      have hl:=zln xss[j]
      simp only [List.getD,List.getElem?_eq_getElem hj,Option.getD_some]
      rcases row_came hru with ⟨h3,h4,a,c,rfl⟩|⟨h3,h4,hsc,b2,off2,c,rfl,hc⟩
      ·exact ⟨a,c,fun _=>⟨by rw [hu,h3],⟨hl,fun u hu=>by rw [h4] at hu;simp at hu,.inl h3⟩⟩⟩
      ·exact ⟨some ⟨b2,off2,none⟩,c,fun _=>⟨hu,⟨hl,hsc,.inr ⟨b2,off2,rfl,hc⟩⟩⟩⟩
     ·exact ⟨none,0,fun h=>absurd h hj⟩
    refine ⟨some ⟨b,off,none⟩,b,off,cap,fun j=>Classical.choose (hg j),fun j=>Classical.choose (Classical.choose_spec (hg j)),rfl,fun _=>rfl,fun j hj=>?_,fun j hj=>?_⟩
    ·exact (Classical.choose_spec (Classical.choose_spec (hg j)) hj).1
    ·exact (Classical.choose_spec (Classical.choose_spec (hg j)) hj).2
  obtain ⟨xa,xb,xo,xc,ra,rc,rfl,k1,k2,k3⟩:=key
  have ht:=tot_take xss xss.length (Nat.le_refl _)
  have hcat:=cat_take xss xss.length (Nat.le_refl _)
  rw [List.take_length] at ht hcat
  have hw:=hwalk xa xb xo xss.length xc ra (fun i=>(xss.getD i []).length) rc (fun i=>flL (xss.getD i [])) w k1 (by simp only [maxBytes] at hb0;unfold maxLen;omega) k2 k3
   (by rw [ht];have:=Nat.mul_le_mul_left xss.flatten.length (Nat.le_succ bytes);rw [← Nat.succ_eq_add_one] at hb;simp only [maxBytes] at hb;omega)
  rw [ht,hcat] at hw
  refine hw.mono fun e w' hh=>?_
  obtain ⟨v',rfl,hown,hnil,hbel⟩:=hh
  rcases Nat.eq_zero_or_pos xss.flatten.length with h0 | h0
  ·rw [hnil h0,List.length_eq_zero_iff.1 h0]
   exact ⟨_,G,rfl,zpb,hbel.size,zjf hbel hbel.size,fun b hlt=>⟨hbel.block b hlt,rfl,rfl⟩,fun b t ho=>Nat.lt_of_lt_of_le (hG b t ho).2 hbel.size⟩
  ·have hsc:∀ u∈flL xss.flatten,scal u=true:=by
    intro u hu
    obtain ⟨x,_,hx⟩:=List.mem_flatMap.1 hu
    exact FlatE.sc x u hx
   obtain ⟨G',g1,g2,g3⟩:=row_back (G:=G) hown h0 (Enc.pos (α:=α)) (zln _) hsc (fun b t ho=>(hG b t ho).2) hbel.size
   exact ⟨v',G',rfl,g1,hbel.size,zjf hbel hbel.size,fun b hlt=>⟨hbel.block b hlt,g2 b hlt⟩,g3⟩
 ·cases hr

end Go.Ev


namespace Go.Ev
open Go.Sort

structure Two (w w':World) (b1 b2:Nat) (xs ys:List Int):Prop where
 size:w.heap.size≤w'.heap.size
 kept:Kept w w'
 same:∀ b,b < w.heap.size→b≠b1→b≠b2→w'.heap[b]?=w.heap[b]?
 one:∀ i x,xs[i]?=some x→w'.cell? ⟨b1,i,none⟩=some (.int .i64 x)
 two:∀ i x,ys[i]?=some x→w'.cell? ⟨b2,i,none⟩=some (.int .i64 x)

def decI (c x:Int):Int:=if c < x then subI x 1 else x
structure WJ (w wr:World) (b1 b2 hb rb g:Nat) (s1 s2:Value) (d1 d2:Array Int):Prop where
 h1:Holds (Value.int .i64) wr b1 0 d1
 h2:Holds (Value.int .i64) wr b2 0 d2
 hh0:wr.cell? ⟨hb,0,none⟩=some s1
 hh1:wr.cell? ⟨hb,1,none⟩=some s2
 hg0:wr.cell? ⟨g,0,none⟩=some s1
 hg1:wr.cell? ⟨g,1,none⟩=some s2
 hr:∃ z0 z1 ty,wr.heap[rb]?=some (.cells #[z0,z1] ty (0,0))
 size:w.heap.size≤wr.heap.size
 kept:Kept w wr
 same:∀ b,b < w.heap.size→b≠b1→b≠b2→wr.heap[b]?=w.heap[b]?

def decTo (c:Int) (d:Array Int) (i:Nat):Array Int:=(((d.toList.take i).map (decI c)) ++ d.toList.drop i).toArray
theorem decTo_size (c:Int) (d:Array Int) (i:Nat):(decTo c d i).size=d.size:=by simp [decTo];omega
theorem decTo_all (c:Int) (d:Array Int):decTo c d d.size=(d.toList.map (decI c)).toArray:=by
 have h1:List.take d.size d.toList=d.toList:=List.take_of_length_le (by simp)
 have h2:List.drop d.size d.toList=[]:=List.drop_eq_nil_of_le (by simp)
 rw [decTo,h1,h2,List.append_nil]

theorem heapA (w:World) (o:Obj) {b:Nat} (h:b < w.heap.size):(w.alloc o).heap[b]?=w.heap[b]?:=by
 show (w.heap.push o)[b]?=_
 rw [Array.getElem?_push,if_neg (by omega)]
theorem heapN (w:World) (o:Obj) {n:Nat} (h:n=w.heap.size):(w.alloc o).heap[n]?=some o:=by
 subst h
 show (w.heap.push o)[w.heap.size]?=_
 simp
theorem cellH {w:World} {b i:Nat} {cs:Array Value} {ty:TypeId} (h:w.heap[b]?=some (.cells cs ty (0,0))):w.cell? ⟨b,i,none⟩=cs[i]?∧w.frozen? ⟨b,i,none⟩=false:=by
 refine ⟨?_,by simp [World.frozen?,h]⟩
 unfold World.cell?
 simp [h]
theorem WJ.start {w:World} {b1 b2 q:Nat} {s1 s2 s2' z1 z2:Value} {d1 d2 d2':Array Int} {ty ty':TypeId} (hne:b1≠b2) (hb1:b1 < w.heap.size) (hb2:b2 < w.heap.size) (H1:Holds (Value.int .i64) w b1 0 d1) (H2:Holds (Value.int .i64) w b2 0 d2) (hd:d2'.size=d2.size)
 {W:World} (hW:W=putRow (Value.int .i64) (Sort.ahead ((w.alloc (.cells #[s1,s2] ty)).alloc (.cells #[z1,z2] ty)) q) b2 0 d2') :
 (W.cell? ⟨w.heap.size,0,none⟩=some s1∧W.cell? ⟨w.heap.size,1,none⟩=some s2∧W.frozen? ⟨w.heap.size,1,none⟩=false∧W.heap.size=w.heap.size+2) ∧
 WJ w ((W.setCell ⟨w.heap.size,1,none⟩ s2').alloc (.cells #[s1,s2'] ty')) b1 b2 w.heap.size (w.heap.size+1) (w.heap.size+2) s1 s2' d1 d2':=by
 have hsz:W.heap.size=w.heap.size+2:=by rw [hW,size_putRow];simp [Sort.ahead]
 have hp:∀ b,b≠b2→W.heap[b]?=((w.alloc (.cells #[s1,s2] ty)).alloc (.cells #[z1,z2] ty)).heap[b]?:=fun b hb=>by
  rw [hW]
  simp only [putRow,mapBlock,Array.getElem?_modify,if_neg (Ne.symm hb)]
  rfl
 have h0:W.heap[w.heap.size]?=some (.cells #[s1,s2] ty (0,0)):=by rw [hp _ (by omega),heapA _ _ (by simp),heapN _ _ rfl]
 have h1:W.heap[w.heap.size+1]?=some (.cells #[z1,z2] ty (0,0)):=by rw [hp _ (by omega),heapN _ _ (by simp)]
 have hold:∀ b,b < w.heap.size→b≠b2→W.heap[b]?=w.heap[b]?:=fun b hb hn=>by rw [hp b hn,heapA _ _ (by simp;omega),heapA _ _ hb]
 have hV:∀ b,b≠w.heap.size→b < w.heap.size+2→((W.setCell ⟨w.heap.size,1,none⟩ s2').alloc (.cells #[s1,s2'] ty')).heap[b]?=W.heap[b]?:=fun b hb hl=>by
  rw [heapA _ _ (by rw [World.size_setCell,hsz];exact hl)]
  simp only [World.setCell,Array.getElem?_modify]
  rw [if_neg (Ne.symm hb)]
 have hV0:((W.setCell ⟨w.heap.size,1,none⟩ s2').alloc (.cells #[s1,s2'] ty')).heap[w.heap.size]?=some (.cells #[s1,s2'] ty (0,0)):=by
  rw [heapA _ _ (by rw [World.size_setCell,hsz];omega)]
  simp only [World.setCell,Array.getElem?_modify,h0,if_true]
  rfl
 have hVg:((W.setCell ⟨w.heap.size,1,none⟩ s2').alloc (.cells #[s1,s2'] ty')).heap[w.heap.size+2]?=some (.cells #[s1,s2'] ty' (0,0)):=heapN _ _ (by rw [World.size_setCell,hsz])
 have hVs:((W.setCell ⟨w.heap.size,1,none⟩ s2').alloc (.cells #[s1,s2'] ty')).heap.size=w.heap.size+3:=by simp [hsz]
 have hH2:Holds (Value.int .i64) W b2 0 d2':=by
  rw [hW]
  refine holds_putRow _ _ _ _ d2 _ ?_ hd
  intro j hj
  have hf:((w.alloc (.cells #[s1,s2] ty)).alloc (.cells #[z1,z2] ty)).heap[b2]?=w.heap[b2]?:=by rw [heapA _ _ (by simp;omega),heapA _ _ hb2]
  have:=H2 j hj
  unfold World.cell? World.frozen? at *
  simp only [Sort.ahead,hf] at *
  exact this
 have move:∀ (X Y:World) (b:Nat) (d:Array Int),Y.heap[b]?=X.heap[b]?→Holds (Value.int .i64) X b 0 d→Holds (Value.int .i64) Y b 0 d:=fun X Y b d he hX j hj=>by
  have:=hX j hj
  unfold World.cell? World.frozen? at *
  simp only [he] at *
  exact this
 refine ⟨⟨(cellH h0).1,(cellH h0).1,(cellH h0).2,hsz⟩,?_⟩
 refine ⟨move w _ b1 d1 (by rw [hV b1 (by omega) (by omega),hold b1 hb1 hne]) H1,move W _ b2 d2' (hV b2 (by omega) (by omega)) hH2,(cellH hV0).1,(cellH hV0).1,(cellH hVg).1,(cellH hVg).1,⟨_,_,_,(hV (w.heap.size+1) (by omega) (by omega)).trans h1⟩,by rw [hVs];omega,?_,fun b hb n1 n2=>by rw [hV b (by omega) (by omega),hold b hb n2]⟩
 ·refine ⟨by rw [hW];exact ⟨rfl,rfl,rfl⟩,fun a ha=>⟨by rw [hVs];omega,?_⟩⟩
  by_cases hb:a.block=b2
  ·have e1:((W.setCell ⟨w.heap.size,1,none⟩ s2').alloc (.cells #[s1,s2'] ty')).frozen? a=W.frozen? a:=by
    unfold World.frozen?
    rw [hV a.block (by omega) (by omega)]
   rw [e1,hW,frozen?_putRow]
   unfold World.frozen?
   simp only [Sort.ahead]
   rw [heapA _ _ (by simp;omega),heapA _ _ ha]
  ·unfold World.frozen?
   rw [hV a.block (by omega) (by omega),hold a.block ha hb]
theorem WJ.swap {w wr:World} {b1 b2 hb rb g:Nat} {s1 s2:Value} {d1 d2:Array Int} (h:WJ w wr b1 b2 hb rb g s1 s2 d1 d2) (n1:b1≠b2) (n2:hb≠b2) (n3:rb≠b2) (n4:g≠b2) {i:Nat} (hi:i < d2.size) (x:Int) :
 WJ w (wr.setCell ⟨b2,0+i,none⟩ (.int .i64 x)) b1 b2 hb rb g s1 s2 d1 (d2.setIfInBounds i x):=by
 have e:wr.setCell ⟨b2,0+i,none⟩ (.int .i64 x)=putRow (Value.int .i64) wr b2 0 (d2.setIfInBounds i x):=by
  have:=putRow_set (Value.int .i64) wr b2 0 d2 i x hi
  rwa [putRow_self _ _ _ _ _ h.h2] at this
 have oth:∀ b o,b≠b2→(putRow (Value.int .i64) wr b2 0 (d2.setIfInBounds i x)).cell? ⟨b,o,none⟩=wr.cell? ⟨b,o,none⟩:=fun b o hb=>cell?_putRow_other _ _ _ _ _ _ (.inl hb)
 rw [e]
 refine ⟨fun j hj=>⟨?_,by rw [frozen?_putRow];exact (h.h1 j hj).2⟩,holds_putRow _ _ _ _ d2 _ h.h2 (by simp),?_,?_,?_,?_,?_,by rw [size_putRow];exact h.size,?_,fun b hb' q1 q2=>?_⟩
 ·rw [oth _ _ n1];exact (h.h1 j hj).1
 ·rw [oth _ _ n2];exact h.hh0
 ·rw [oth _ _ n2];exact h.hh1
 ·rw [oth _ _ n4];exact h.hg0
 ·rw [oth _ _ n4];exact h.hg1
 ·obtain ⟨z0,z1,ty,hz⟩:=h.hr
  refine ⟨z0,z1,ty,?_⟩
  rw [← hz]
  simp only [putRow,mapBlock,Array.getElem?_modify,if_neg (Ne.symm n3)]
 ·exact h.kept.trans ⟨⟨rfl,rfl,rfl⟩,fun a ha=>⟨by rwa [size_putRow],frozen?_putRow _ _ _ _ _ _⟩⟩
 ·rw [← h.same b hb' q1 q2]
  simp only [putRow,mapBlock,Array.getElem?_modify,if_neg (Ne.symm q2)]
theorem WJ.done {w wr:World} {b1 b2 hb rb g c:Nat} {s1 s2:Value} {d1 D2:Array Int} {L:List Int} (h:WJ w wr b1 b2 hb rb g s1 s2 (decTo c d1 d1.size) (decTo c D2 L.length)) (hD:D2=(L ++ [0]).toArray) (n1:b1≠rb) (n2:b2≠rb) (n3:w.heap.size≤rb) :
 (∃ ty,((wr.setCell ⟨rb,0,none⟩ s1).setCell ⟨rb,1,none⟩ s2).heap[rb]?=some (.cells #[s1,s2] ty (0,0)))∧Two w ((wr.setCell ⟨rb,0,none⟩ s1).setCell ⟨rb,1,none⟩ s2) b1 b2 (d1.toList.map (decI c)) (L.map (decI c)):=by
 obtain ⟨z0,z1,ty,hz⟩:=h.hr
 have oth:∀ b,b≠rb→((wr.setCell ⟨rb,0,none⟩ s1).setCell ⟨rb,1,none⟩ s2).heap[b]?=wr.heap[b]?:=fun b hb=>by
  simp only [World.setCell,Array.getElem?_modify,if_neg (Ne.symm hb)]
 refine ⟨⟨ty,?_⟩,by simp;exact h.size,?_,fun b hb q1 q2=>by rw [oth b (by omega)];exact h.same b hb q1 q2,fun i x hi=>?_,fun i x hi=>?_⟩
 ·simp only [World.setCell,Array.getElem?_modify,hz,if_true,Option.map_some]
  rfl
 ·exact h.kept.trans ⟨⟨rfl,rfl,rfl⟩,fun a ha=>⟨by simpa using ha,by simp⟩⟩
 ·have hlt:i < d1.size:=by
   have:=(List.getElem?_eq_some_iff.1 hi).1
   simpa using this
  have:=(h.h1 i (by rw [decTo_size];exact hlt)).1
  rw [decTo_all,Nat.zero_add] at this
  have e:((d1.toList.map (decI c)).toArray)[i]! = x:=by
   rw [getElem!_pos _ i (by simpa using hlt)]
   have:=(List.getElem?_eq_some_iff.1 hi).2
   simpa using this
  rw [e] at this
  rw [← this]
  unfold World.cell?
  simp only [oth b1 n1]
 ·have hlt:i < L.length:=by
   have:=(List.getElem?_eq_some_iff.1 hi).1
   simpa using this
  have:=(h.h2 i (by rw [decTo_size,hD];simp;omega)).1
  rw [Nat.zero_add] at this
  have e:(decTo c D2 L.length)[i]! = x:=by
   rw [getElem!_pos _ i (by rw [decTo_size,hD];simp;omega)]
   have hx:=(List.getElem?_eq_some_iff.1 hi).2
   simp only [decTo,hD,List.getElem_toArray]
   rw [List.getElem_append_left (by simp;omega)]
   simpa [List.getElem_append_left hlt] using hx
  rw [e] at this
  rw [← this]
  unfold World.cell?
  simp only [oth b2 n2]
end Go.Ev


namespace Go.Ev
end Go.Ev


namespace Go.Ev
open Go.Sort

def cmpS (a b:ByteArray):Int:=Lib.compareBytes a.data.toList b.data.toList
def ltS (x y:ByteArray):Bool:=Op.bytesLess x.data.toList y.data.toList
theorem lessL:∀ (x y:List UInt8),Op.bytesLess x y=decide (x < y)
 | [],[]=>by simp [Op.bytesLess]
 | _ :: _,[]=>by simp [Op.bytesLess]
 | [],_ :: _=>by simp [Op.bytesLess]
 | a :: x,b :: y=>by
  rw [Op.bytesLess,lessL x y]
  simp only [List.cons_lt_cons_iff]
  by_cases h1:a < b <;> by_cases h2:a=b <;> by_cases h3:x < y <;> simp [h1,h2,h3]
theorem cmpL_less:∀ (x y:List UInt8),decide (Lib.compareBytes x y < 0)=Op.bytesLess x y
 | [],[]=>by simp [Op.bytesLess,Lib.compareBytes]
 | _ :: _,[]=>by simp [Op.bytesLess,Lib.compareBytes]
 | [],_ :: _=>by simp [Op.bytesLess,Lib.compareBytes]
 | a :: x,b :: y=>by
  rw [Op.bytesLess,← cmpL_less x y,Lib.compareBytes]
  by_cases h1:a < b
  ·simp [h1]
  ·rw [if_neg h1]
   by_cases h2:b < a
   ·rw [if_pos h2]
    have:¬ a=b:=fun e=>by subst e;exact h1 h2
    simp [h1,this]
   ·rw [if_neg h2]
    have:a=b:=by
     rw [UInt8.lt_iff_toNat_lt] at h1 h2
     exact UInt8.toNat_inj.1 (by omega)
    simp [this]
theorem lt_cmpS:Go.Proofs.ltOf cmpS=ltS:=by
 funext x y
 exact cmpL_less _ _
theorem ltS_eq (x y:ByteArray):ltS x y=decide (x.data.toList < y.data.toList):=lessL _ _
theorem swoS:SWO ltS where
 irrefl x:=by rw [ltS_eq];simp
 trans x y z h1 h2:=by rw [ltS_eq] at *; simp at *; exact List.lt_trans h1 h2
 ntrans x y z h1 h2:=by rw [ltS_eq] at *; simp at *; exact List.le_trans h2 h1
theorem totS {x y:ByteArray} (h1:ltS x y=false) (h2:ltS y x=false):x=y:=by
 rw [ltS_eq] at *
 simp at *
 have:=List.le_antisymm h1 h2
 obtain ⟨⟨a⟩⟩:=x
 obtain ⟨⟨b⟩⟩:=y
 simp at this
 rw [this]
def sortN (l:List ByteArray):List ByteArray:=(Sort.insertionSort ltS l.toArray 0 l.length).toList
theorem zfv (l:List ByteArray):(sortN l).Perm l:=by
 have h:=(insertionSort_holds swoS l.toArray 0 l.length (Nat.zero_le _) (by simp)).1
 have hs:(Sort.insertionSort ltS l.toArray 0 l.length).size=l.length:=by simpa using h.1
 have:=h.2.2
 rw [show (Sort.insertionSort ltS l.toArray 0 l.length).extract 0 l.length=Sort.insertionSort ltS l.toArray 0 l.length by simp;exact .inr (by omega),show l.toArray.extract 0 l.length=l.toArray by simp] at this
 exact this
theorem zhc (l:List ByteArray):(sortN l).length=l.length:=(zfv l).length_eq
theorem zhb (l:List ByteArray):(sortN l).Pairwise fun x y=>ltS y x=false:=by
 have h:=insertionSort_holds swoS l.toArray 0 l.length (Nat.zero_le _) (by simp)
 have hs:(Sort.insertionSort ltS l.toArray 0 l.length).size=l.length:=by simpa using h.1.1
 rw [List.pairwise_iff_getElem]
 intro i j hi hj hij
 have hj':j < l.length:=by rw [← zhc];exact hj
 have:=h.2 i j (Nat.zero_le _) hij hj'
 rw [getElem!_pos _ j (by omega),getElem!_pos _ i (by omega)] at this
 exact this
theorem zjp:∀ {l l':List ByteArray},l.Perm l'→l.Pairwise (fun x y=>ltS y x=false)→l'.Pairwise (fun x y=>ltS y x=false)→l=l'
 | [],l',h,_,_=>h.nil_eq
 | x :: l,[],h,_,_=>absurd h.length_eq (by simp)
 | x :: l,y :: l',h,h1,h2=>by
  rw [List.pairwise_cons] at h1 h2
  have hxy:x=y:=by
   by_cases e:x=y
   ·exact e
   ·have hy:y∈l:=((List.mem_cons.1 (h.mem_iff.2 (List.mem_cons_self ..))).resolve_left fun h=>e h.symm)
    have hx:x∈l':=((List.mem_cons.1 (h.mem_iff.1 (List.mem_cons_self ..))).resolve_left e)
    exact totS (h2.1 x hx) (h1.1 y hy)
  subst hxy
  rw [zjp (h.cons_inv) h1.2 h2.2]
end Go.Ev


namespace Go.Ev

noncomputable instance decMemS (x:ByteArray) (l:List ByteArray):Decidable (x∈l):=Classical.propDecidable _
def posN (k:ByteArray):List ByteArray→Int→List Int
 | [],_=>[]
 | x :: r,i=>if x=k then i :: posN k r (i+1) else posN k r (i+1)
def dstN (l:List ByteArray):List ByteArray:=l.foldl (fun a x=>if x∈a then a else a ++ [x]) []
def grpN (l:List ByteArray):List (ByteArray × List Int):=(dstN l).map fun k=>(k,posN k l 0)
def lookT (s:ByteArray):List (ByteArray × List Int)→Option (List Int)
 | []=>none
 | (k,d) :: r=>if k=s then some d else lookT s r
def encM (es:List (ByteArray × List Int)):List (ByteArray × Nat × List D):=es.map fun p=>(p.1,p.2.length,encL p.2)

theorem znn {s:ByteArray}:∀ {es:List (ByteArray × List Int)} {r:List Int},lookT s es=some r→lookM s (encM es)=some (r.length,encL r)
 | [],r,h=>by cases h
 | (k,d) :: es,r,h=>by
  rw [lookT] at h
  show (if k=s then _ else _)=_
  split at h
  ·rename_i hk
   cases h
   rw [if_pos hk]
  ·rename_i hk
   rw [if_neg hk]
   exact znn h
theorem lookM_inv {s:ByteArray}:∀ {es:List (ByteArray × List Int)} {n:Nat} {cs:List D},lookM s (encM es)=some (n,cs)→∃ r,lookT s es=some r∧n=r.length∧cs=encL r
 | [],n,cs,h=>by cases h
 | (k,d) :: es,n,cs,h=>by
  have h:(if k=s then some (d.length,encL d) else lookM s (encM es))=some (n,cs):=h
  rw [lookT]
  split at h
  ·rename_i hk
   cases h
   exact ⟨d,by rw [if_pos hk],rfl,rfl⟩
  ·rename_i hk
   obtain ⟨r,h1,h2⟩:=lookM_inv h
   exact ⟨r,by rw [if_neg hk];exact h1,h2⟩
theorem znm {s:ByteArray} (F:ByteArray→List Int):∀ (l:List ByteArray),lookT s (l.map fun k=>(k,F k))=if s∈l then some (F s) else none
 | []=>by rw [if_neg (List.not_mem_nil)];rfl
 | k :: l=>by
  rw [List.map_cons,lookT,znm F l]
  by_cases hk:k=s
  ·subst hk
   simp
  ·rw [if_neg hk]
   by_cases hs:s∈l
   ·rw [if_pos hs,if_pos (List.mem_cons_of_mem _ hs)]
   ·rw [if_neg hs,if_neg (fun h=>(List.mem_cons.1 h).elim (fun e=>hk e.symm) hs)]

theorem zhl (k x:ByteArray):∀ (l:List ByteArray) (i:Int),posN k (l ++ [x]) i=posN k l i ++ if x=k then [i+l.length] else []
 | [],i=>by simp [posN]
 | y :: l,i=>by
  rw [List.cons_append,posN,posN,zhl k x l (i+1)]
  have e:i+1+(l.length:Int)=i+((y :: l).length:Int):=by simp;omega
  rw [e]
  split <;> simp
theorem zkx (l:List ByteArray) (x:ByteArray):dstN (l ++ [x])=if x∈dstN l then dstN l else dstN l ++ [x]:=by
 unfold dstN
 rw [List.foldl_append]
 rfl
theorem zhz (x:ByteArray) (l:List ByteArray):x∈dstN l ↔ x∈l:=by
 suffices h:∀ (l a:List ByteArray),x∈l.foldl (fun a x=>if x∈a then a else a ++ [x]) a ↔ x∈a∨x∈l by simpa [dstN] using h l []
 intro l
 induction l with
 | nil=>simp
 | cons y l ih =>
  intro a
  rw [List.foldl_cons,ih]
  split
  ·rename_i hy
   simp only [List.mem_cons]
   constructor
   ·rintro (h | h)
    ·exact .inl h
    ·exact .inr (.inr h)
   ·rintro (h | rfl | h)
    ·exact .inl h
    ·exact .inl hy
    ·exact .inr h
  ·simp only [List.mem_append,List.mem_cons,List.not_mem_nil,or_false]
   constructor
   ·rintro ((h | h) | h)
    ·exact .inl h
    ·exact .inr (.inl h)
    ·exact .inr (.inr h)
   ·rintro (h | h | h)
    ·exact .inl (.inl h)
    ·exact .inl (.inr h)
    ·exact .inr h
theorem dstN_nodup (l:List ByteArray):(dstN l).Nodup:=by
 suffices h:∀ (l a:List ByteArray),a.Nodup→(l.foldl (fun a x=>if x∈a then a else a ++ [x]) a).Nodup from h l [] List.nodup_nil
 intro l
 induction l with
 | nil=>exact fun a h=>h
 | cons y l ih =>
  intro a ha
  rw [List.foldl_cons]
  refine ih _ ?_
  split
  ·exact ha
  ·rename_i hy
   rw [List.nodup_append]
   exact ⟨ha,by simp,fun x hx z hz=>by simp at hz;subst hz;rintro rfl;exact hy hx⟩
theorem zib (l:List ByteArray):(dstN l).length≤l.length:=by
 suffices h:∀ (l a:List ByteArray),(l.foldl (fun a x=>if x∈a then a else a ++ [x]) a).length≤a.length+l.length by simpa [dstN] using h l []
 intro l
 induction l with
 | nil=>exact fun a=>Nat.le_refl _
 | cons y l ih =>
  intro a
  rw [List.foldl_cons]
  have:=ih (if y∈a then a else a ++ [y])
  have h2:(if y∈a then a else a ++ [y]).length≤a.length+1:=by split <;> simp
  simp only [List.length_cons]
  omega
theorem posN_nil {k:ByteArray}:∀ {l:List ByteArray} {i:Int},posN k l i=[] ↔ k ∉ l
 | [],i=>by simp [posN]
 | y :: l,i=>by
  rw [posN]
  by_cases h:y=k
  ·subst h;simp
  ·rw [if_neg h,posN_nil (l:=l)]
   exact ⟨fun h1 h2=>(List.mem_cons.1 h2).elim (fun e=>h e.symm) h1,fun h1 h2=>h1 (List.mem_cons_of_mem _ h2)⟩
theorem zjs (k:ByteArray):∀ (l:List ByteArray) (i:Int),(posN k l i).length≤l.length
 | [],i=>Nat.le_refl _
 | y :: l,i=>by
  rw [posN]
  have:=zjs k l (i+1)
  split
  ·simp only [List.length_cons];omega
  ·simp only [List.length_cons];omega
theorem zlk {k:ByteArray} {z:Int}:∀ {l:List ByteArray} {i:Int},z∈posN k l i→i≤z∧z < i+l.length
 | [],i,h=>by cases h
 | y :: l,i,h=>by
  rw [posN] at h
  have hr:z∈posN k l (i+1)→i≤z∧z < i+((y :: l).length:Int):=fun h=>by
   have:=zlk h
   simp only [List.length_cons]
   omega
  split at h
  ·rcases List.mem_cons.1 h with rfl | h
   ·simp only [List.length_cons];omega
   ·exact hr h
  ·exact hr h
end Go.Ev


namespace Go.Ev
open Go.RowKit

structure R where
 g:Nat
 cap:Nat
 e:Nat
 xs:List Value
def R.v (r:R):Value:=.slice (some ⟨r.g,0,none⟩) r.xs.length r.cap
theorem R.own (r:R):r.v.ownBlock=some r.g:=rfl
structure RowL (w:World) (base:Nat) (L:List R):Prop where
 all:∀ r∈L,w.ownsRow base r.e 1 r.v r.xs.length r.xs
 dis:L.Pairwise fun a b=>a.g≠b.g

variable {w w':World} {base:Nat} {r:R} {L L':List R}
theorem RowL.lt (h:RowL w base L) (hr:r∈L):base≤r.g∧r.g < w.heap.size:=(h.all r hr).lt _ r.own
theorem RowL.tail (h:RowL w base (r :: L)):RowL w base L:=⟨fun x hx=>h.all x (List.mem_cons_of_mem _ hx),(List.pairwise_cons.1 h.dis).2⟩
theorem RowL.perm (h:RowL w base L) (hp:L.Perm L'):RowL w base L':=⟨fun x hx=>h.all x (hp.mem_iff.2 hx),(hp.pairwise_iff (fun {a b} hab=>Ne.symm hab)).1 h.dis⟩
theorem RowL.grown (h:RowL w base L) {row:Option Nat} (hg:w.grownBy w' row) (hr:∀ r∈L,some r.g≠row):RowL w' base L :=
 ⟨fun x hx=>(h.all x hx).kept hg (.inr (by rw [x.own];exact hr x hx)),h.dis⟩
theorem RowL.alloc (h:RowL w base L) (o:Obj):RowL (w.alloc o) base L:=h.grown (World.grownBy_alloc w o none) fun _ _=>by simp
theorem RowL.lit (h:RowL w base L) (cs:Array Value) (e:Nat) (hb:base≤w.heap.size) (hm:cs.size≤maxLen):RowL (w.alloc (.cells cs e)) base (⟨w.heap.size,cs.size,e,cs.toList⟩ :: L):=by
 refine ⟨fun x hx=>?_,List.pairwise_cons.2 ⟨fun x hx=>?_,h.dis⟩⟩
 ·rcases List.mem_cons.1 hx with rfl | hx
  ·have:=World.ownsRow_lit (base:=base) (e:=e) (size:=1) w cs cs.size hb hm (by omega)
   simpa [R.v] using this
  ·exact (h.alloc _).all x hx
 ·have:=(h.lt hx).2
  show w.heap.size≠x.g
  omega
theorem RowL.app (h:RowL w base (r :: L)) (hg:w.grownBy w' (some r.g)) {g' cap':Nat} {xs':List Value} (ho:w'.ownsRow base r.e 1 (.slice (some ⟨g',0,none⟩) xs'.length cap') xs'.length xs') (hl:g'=r.g∨w.heap.size≤g') :
 RowL w' base (⟨g',cap',r.e,xs'⟩ :: L):=by
 have hne:∀ x∈L,r.g≠x.g:=(List.pairwise_cons.1 h.dis).1
 refine ⟨fun x hx=>?_,List.pairwise_cons.2 ⟨fun x hx=>?_,(List.pairwise_cons.1 h.dis).2⟩⟩
 ·rcases List.mem_cons.1 hx with rfl | hx
  ·exact ho
  ·exact (h.tail.grown hg fun y hy=>by simpa using (hne y hy).symm).all x hx
 ·show g'≠x.g
  rcases hl with rfl | hl
  ·exact hne x hx
  ·have:=(h.tail.lt hx).2;omega
theorem RowL.take (h:RowL w base (r :: L)) {n:Nat} (hn:n≤r.xs.length):RowL w base (⟨r.g,r.cap,r.e,r.xs.take n⟩ :: L):=by
 refine ⟨fun x hx=>?_,List.pairwise_cons.2 ⟨(List.pairwise_cons.1 h.dis).1,(List.pairwise_cons.1 h.dis).2⟩⟩
 rcases List.mem_cons.1 hx with rfl | hx
 ·have ho:=h.all r (List.mem_cons_self ..)
  rcases ho.2 with ⟨h',_⟩|⟨g,cap,cur,h',h1,h2,h3,h4,h5,h6⟩
  ·cases h'
  ·cases h'
   refine ⟨by simp,.inr ⟨r.g,r.cap,cur,rfl,h1,h2,by simp;omega,h4,h5,?_⟩⟩
   rw [Nat.mul_one] at h6 ⊢
   show cur.toList.take (r.xs.take n).length=r.xs.take n
   rw [← h6,List.length_take,List.length_take,List.take_take]
   congr 1
   have:cur.toList.length=r.cap:=by simpa using h5
   omega
 ·exact h.all x (List.mem_cons_of_mem _ hx)
theorem RowL.set (h:RowL w base (r :: L)) (j:Nat) (u:Value):RowL (w.setCell ⟨r.g,j,none⟩ u) base (⟨r.g,r.cap,r.e,r.xs.set j u⟩ :: L)∧w.grownBy (w.setCell ⟨r.g,j,none⟩ u) (some r.g):=by
 obtain ⟨h1,h2⟩:=(h.all r (List.mem_cons_self ..)).stored j u
 refine ⟨h.app h2 (by simpa using h1) (.inl rfl),h2⟩
theorem RowL.cell (h:RowL w base L) (hr:r∈L) {j:Nat} {u:Value} (hj:r.xs[j]?=some u):w.cell? ⟨r.g,j,none⟩=some u:=by
 rw [(h.all r hr).cellAt j (by have:=(List.getElem?_eq_some_iff.1 hj).1;omega)]
 exact hj
theorem RowL.frozen (h:RowL w base L) (hr:r∈L) (j:Nat):w.frozen? ⟨r.g,j,none⟩=false:=(h.all r hr).frozenAt j
theorem RowL.nil:RowL w base []:=⟨fun x hx=>absurd hx (List.not_mem_nil),List.Pairwise.nil⟩
theorem RowL.len (h:RowL w base L) (hr:r∈L):r.xs.length≤r.cap∧r.cap≤maxLen:=by
 rcases (h.all r hr).2 with ⟨h',_⟩|⟨g,cap,cur,h',_,_,h3,h4,_⟩
 ·cases h'
 ·cases h'
  exact ⟨h3,h4⟩

theorem zax {P:Program} {ops:Array Oper} {rest:List Oper} {o:Oper} {a:Act} {Q:Exit→Act→World→Prop} (hgd:o.guard=none) (s x:Operand) (t:TypeId)
 (ho:o.op=.call { callee:=.builtin .append,args:=#[s,x],argTypes:=#[t,t] }) {g cap e n:Nat} {xs:List Value} (i:TypeInfo) (z:Value) (bytes:Nat) (ht:P.underlying t=some (.slice e)) (hi:P.info? e=some i) (hz:i.zero=some z)
 (hsize:i.size=1) (hby:i.bytes=bytes) (hzs:z.cells.size=1) (hR:RowL w base (⟨g,cap,e,xs⟩ :: L)) (hn:xs.length=n) (hs:a.eval s=.slice (some ⟨g,0,none⟩) n cap)
 (ad:Addr) (m c:Nat) (news:List Value) (hx:a.eval x=.slice (some ad) m c) (hl:news.length=m) (hnews:∀ (j:Nat) u,news[j]?=some u→w.cell? (ad.add j)=some u) (h1:∀ u∈news,u.oneCell'=true)
 (h63:n+m≤maxLen) (hbytes:(n+m) * bytes≤140737488355328) (hbase:base≤w.heap.size)
 (h:∀ g' cap' w',RowL w' base (⟨g',cap',e,xs ++ news⟩ :: L)→w.grownBy w' (some g)→(g'=g∨w.heap.size≤g')→wpList P ops Q rest (a.put o.dst (.slice (some ⟨g',0,none⟩) (n+m) cap')) w') :
 wpList P ops Q (o :: rest) a w:=by
 subst hn
 refine wpList_append_own_at w hgd s x t ho base e i z 1 bytes ht hi hz hsize hby hzs (by decide) _ xs.length xs hs (hR.all _ (List.mem_cons_self ..)) ad m c news hx (by rw [hl,Nat.mul_one]) hnews h1 h63 hbytes hbase fun v' w' hown hgrow hnil hloc=>?_
 have hv:∃ g' cap',v'=.slice (some ⟨g',0,none⟩) (xs.length+m) cap':=by
  rcases hown.2 with ⟨rfl,_⟩|⟨g',cap',cur,rfl,_⟩
  ·have:=(hnil.1 rfl).1
   cases this
  ·exact ⟨g',cap',rfl⟩
 obtain ⟨g',cap',rfl⟩:=hv
 have hl2:(xs ++ news).length=xs.length+m:=by rw [List.length_append,hl]
 have hloc':g'=g∨w.heap.size≤g':=by
  rcases hloc with e | e
  ·left;simpa [Value.ownBlock] using e
  ·right
   have:g'=w.heap.size:=by simpa [Value.ownBlock] using e
   omega
 exact h g' cap' w' (hR.app hgrow (by rw [hl2];exact hown) hloc') hgrow hloc'
end Go.Ev


namespace Go.Ev
open Go.Sort

theorem zhk (l:List ByteArray) (x:ByteArray):x∈sortN (dstN l) ↔ x∈l:=by rw [(zfv _).mem_iff,zhz]
theorem zhu (l:List ByteArray):(sortN (dstN l)).Nodup:=(zfv _).nodup_iff.2 (dstN_nodup l)
theorem zlh {l:List ByteArray} {x:ByteArray} (h:x∈l):sortN (dstN (l ++ [x]))=sortN (dstN l):=by rw [zkx,if_pos ((zhz _ _).2 h)]
theorem sortN_new {l:List ByteArray} {x:ByteArray} {i:Nat} (hi:i≤(sortN (dstN l)).length) (hlt:∀ j y,j < i→(sortN (dstN l))[j]?=some y→ltS y x=true) (hge:∀ y,(sortN (dstN l))[i]?=some y→ltS y x=false∧y≠x) :
 x ∉ l∧sortN (dstN (l ++ [x]))=(sortN (dstN l)).take i ++ x :: (sortN (dstN l)).drop i:=by
 have hs:=zhb (dstN l)
 have hmem:=zhk l
 have hp:(sortN (dstN l)).Perm (dstN l):=zfv _
 generalize sortN (dstN l)=ks at hi hlt hge hs hmem hp
 rw [List.pairwise_iff_getElem] at hs
 have hx:x ∉ l:=by
  intro hx
  obtain ⟨j,hj,he⟩:=List.mem_iff_getElem.1 ((hmem x).2 hx)
  rcases Nat.lt_or_ge j i with h1 | h1
  ·have:=hlt j x h1 (by rw [List.getElem?_eq_getElem hj,he])
   rw [swoS.irrefl] at this
   cases this
  ·have hii:i < ks.length:=by omega
   obtain ⟨g1,g2⟩:=hge ks[i] (List.getElem?_eq_getElem hii)
   rcases Nat.lt_or_eq_of_le h1 with h2 | h2
   ·have:=hs i j hii hj h2
    rw [he] at this
    exact g2 (totS g1 this)
   ·subst h2
    exact g2 he
 refine ⟨hx,?_⟩
 rw [zkx,if_neg (fun h=>hx ((zhz _ _).1 h))]
 refine zjp ?_ (zhb _) ?_
 ·refine (zfv _).trans ((hp.symm.append_right [x]).trans ?_)
  conv=>lhs;rw [← List.take_append_drop i ks]
  rw [List.append_assoc]
  exact (List.perm_append_comm (l₁:=ks.drop i) (l₂:=[x])).append_left _
 ·rw [List.pairwise_append,List.pairwise_cons]
  have hd:∀ b∈ks.drop i,ltS b x=false:=by
   intro b hb
   obtain ⟨j,hj,he⟩:=List.mem_iff_getElem.1 hb
   have hj':j < ks.length - i:=by simpa using hj
   have hii:i < ks.length:=by omega
   rw [List.getElem_drop] at he
   obtain ⟨g1,_⟩:=hge ks[i] (List.getElem?_eq_getElem hii)
   cases j with
   | zero=>rw [← he];exact g1
   | succ j =>
    have:=hs i (i+(j+1)) hii (by omega) (by omega)
    rw [he] at this
    exact swoS.ntrans _ _ _ this g1
  have ht:∀ a∈ks.take i,ltS a x=true:=by
   intro a ha
   obtain ⟨j,hj,he⟩:=List.mem_iff_getElem.1 ha
   have hj':j < i:=by simp at hj;omega
   rw [List.getElem_take] at he
   exact hlt j a hj' (by rw [List.getElem?_eq_getElem (by simp at hj;omega),he])
  have asym:∀ a b,ltS a b=true→ltS b a=false:=fun a b h=>by
   cases hb:ltS b a with
   | false=>rfl
   | true=>have:=swoS.trans _ _ _ h hb;rw [swoS.irrefl] at this;cases this
  refine ⟨?_,⟨hd,?_⟩,fun a ha b hb=>?_⟩
  ·rw [List.pairwise_iff_getElem]
   intro p q hp hq hpq
   rw [List.getElem_take,List.getElem_take]
   simp at hp hq
   exact hs p q _ _ hpq
  ·rw [List.pairwise_iff_getElem]
   intro p q hp hq hpq
   rw [List.getElem_drop,List.getElem_drop]
   simp at hp hq
   exact hs (i+p) (i+q) (by omega) (by omega) (by omega)
  ·rcases List.mem_cons.1 hb with rfl | hb
   ·exact asym _ _ (ht a ha)
   ·cases hh:ltS b a with
    | false=>rfl
    | true =>
     have:=swoS.trans _ _ _ hh (ht a ha)
     rw [hd b hb] at this
     cases this

def GI (ks:List ByteArray) (gs:List R) (l:List ByteArray):Prop:=gs.map (fun r=>(r.e,r.xs))=ks.map fun s=>(3,(posN s l 0).map (Value.int .i64))
theorem GI.len {ks:List ByteArray} {gs:List R} {l:List ByteArray} (h:GI ks gs l):gs.length=ks.length:=by
 have:=congrArg List.length h
 simpa using this
theorem GI.at {ks:List ByteArray} {gs:List R} {l:List ByteArray} (h:GI ks gs l) {j:Nat} {r:R} {s:ByteArray} (hr:gs[j]?=some r) (hs:ks[j]?=some s):r.e=3∧r.xs=(posN s l 0).map (Value.int .i64):=by
 have:=congrArg (fun z=>z[j]?) h
 simp only [List.getElem?_map,hr,hs,Option.map_some,Option.some.injEq,Prod.mk.injEq] at this
 exact this
theorem zoo {s x:ByteArray} (h:x≠s) (l:List ByteArray):posN s (l ++ [x]) 0=posN s l 0:=by rw [zhl,if_neg h,List.append_nil]
theorem GI.seen {l:List ByteArray} {gs:List R} {x:ByteArray} {i k:Nat} {r:R} (h:GI (sortN (dstN l)) gs l) (hi:(sortN (dstN l))[i]?=some x) (hk:l.length=k) (he:r.e=3) (hx:r.xs=(posN x l 0).map (Value.int .i64) ++ [.int .i64 k]):GI (sortN (dstN (l ++ [x]))) (gs.set i r) (l ++ [x]):=by
 have hxl:x∈l:=(zhk l x).1 (List.mem_of_getElem? hi)
 have hnd:=zhu l
 rw [zlh hxl]
 unfold GI
 apply List.ext_getElem?
 intro j
 rw [List.getElem?_map,List.getElem?_map,List.getElem?_set]
 have hil:i < gs.length:=by rw [h.len];exact (List.getElem?_eq_some_iff.1 hi).1
 by_cases hij:i=j
 ·subst hij
  rw [if_pos rfl,if_pos hil,hi,Option.map_some,Option.map_some,he,hx,zhl,if_pos rfl]
  simp [hk]
 ·rw [if_neg hij]
  have:=congrArg (fun z=>z[j]?) h
  simp only [List.getElem?_map] at this
  rw [this]
  cases hj:(sortN (dstN l))[j]? with
  | none=>rfl
  | some s =>
   have hne:x≠s:=by
    rintro rfl
    have h1:=List.getElem?_eq_some_iff.1 hi
    have h2:=List.getElem?_eq_some_iff.1 hj
    have hp:=List.pairwise_iff_getElem.1 hnd
    rcases Nat.lt_or_gt_of_ne hij with h3 | h3
    ·exact hp i j h1.1 h2.1 h3 (h1.2.trans h2.2.symm)
    ·exact hp j i h2.1 h1.1 h3 (h2.2.trans h1.2.symm)
   rw [Option.map_some,Option.map_some,zoo hne]
theorem GI.new {l:List ByteArray} {gs:List R} {x:ByteArray} {i k:Nat} {r:R} (h:GI (sortN (dstN l)) gs l) (hs:x ∉ l∧sortN (dstN (l ++ [x]))=(sortN (dstN l)).take i ++ x :: (sortN (dstN l)).drop i) (hk:l.length=k) (he:r.e=3) (hx:r.xs=[.int .i64 k]) :
 GI (sortN (dstN (l ++ [x]))) (gs.take i ++ r :: gs.drop i) (l ++ [x]):=by
 have hmap:(sortN (dstN l)).map (fun s=>((3:Nat),(posN s (l ++ [x]) 0).map (Value.int .i64)))=gs.map (fun r=>(r.e,r.xs)):=by
  rw [h]
  refine List.map_congr_left fun s hs'=>?_
  have hne:x≠s:=by rintro rfl;exact hs.1 ((zhk l _).1 hs')
  rw [zoo hne]
 rw [hs.2]
 unfold GI
 rw [List.map_append,List.map_append,List.map_cons,List.map_cons,List.map_take,List.map_take,List.map_drop,List.map_drop,hmap,he,hx,zhl,if_pos rfl,posN_nil.2 hs.1]
 simp [hk]
end Go.Ev


namespace Go.Ev

structure Ext (w w':World):Prop where
 size:w.heap.size≤w'.heap.size
 kept:Kept w w'
 same:∀ b,b < w.heap.size→w'.heap[b]?=w.heap[b]?
theorem Ext.refl (w:World):Ext w w:=⟨Nat.le_refl _,Kept.refl w,fun _ _=>rfl⟩
theorem Ext.trans {w w1 w2:World} (h:Ext w w1) (h':Ext w1 w2):Ext w w2:=⟨Nat.le_trans h.size h'.size,h.kept.trans h'.kept,fun b hb=>(h'.same b (Nat.lt_of_lt_of_le hb h.size)).trans (h.same b hb)⟩
def Gh.more (G:Gh) (n:Nat) (U:Nat→Nat):Gh:={ G with use:=fun b=>if b < n then G.use b else U b }
theorem znt {w w':World} (h:Ext w w') (G:Gh) (U:Nat→Nat) (o:Ow) (p:List Nat):Hands w G w' (G.more w.heap.size U) o p o p fun _=>false where
 tag b q hb hq:=⟨hq,by show (if b < w.heap.size then G.use b else U b)=_;rw [if_pos hb],h.same b hb⟩
 nil _ _ hq:=hq
 nilh b hb _:=h.same b hb
 box _ _ hk:=hk
 use b hb _:=by show _≤(if b < w.heap.size then G.use b else U b);rw [if_pos hb];exact Nat.le_refl _
 cell b off hb _ _:=by unfold World.cell?;simp only [h.same b hb]
 live k hk _:=⟨hk,rfl,rfl⟩
theorem Sim.ext {d N:Nat} {G:Gh} {σ:St} {tm:Array Value} {w w':World} (hS:Sim d N G σ tm w) (h:Ext w w') (U:Nat→Nat):Sim d N (G.more w.heap.size U) σ tm w'∧Frm d G w (G.more w.heap.size U) w':=by
 refine ⟨{ sz:=hS.sz,env:=fun t=>(znt h G U _ _).ra0 (hS.env t),mem:=fun k cs hk hn=>?_,live:=hS.live,dep:=hS.dep,wf:=fun b t hb=>Nat.lt_of_lt_of_le (hS.wf b t hb) h.size,wfb:=hS.wfb,wfc:=hS.wfc,age:=hS.age,fut:=fun b hb=>hS.fut b (Nat.le_trans h.size hb),aged:=hS.aged,jump:=hS.jump },
  {size:=h.size,kept:=h.kept,same:=fun b hb _=>⟨h.same b hb,rfl,by show (if b < w.heap.size then G.use b else U b)=_;rw [if_pos hb]⟩,age:=fun _ _ _=>rfl,box:=fun _ _ _ hk=>hk,use:=fun b hb _=>by show _≤(if b < w.heap.size then G.use b else U b);rw [if_pos hb];exact Nat.le_refl _,cell:=fun b off hb _ _ _=>by unfold World.cell?;simp only [h.same b hb],live:=fun _ hk _=>⟨hk,rfl,rfl⟩,back:=fun _ _ hk=>.inl hk,up:=fun _ hb=>hb }⟩
 obtain ⟨arr,e,h1,h2,h3,h4⟩:=hS.mem k cs hk hn
 exact ⟨arr,e,(h.same _ (hS.wf _ _ h2)).trans h1,h2,h3,(znt h G U _ _).rcs0 h4⟩
theorem Sim.slots {d N:Nat} {G:Gh} {σ:St} {tm tm':Array Value} {w:World} (hS:Sim d N G σ tm w) {env':Nat→AV} (hz:tm'.size=N) (he:∀ t,RA w G (.slot d t) (env' t) (tm'.getD t undef)):Sim d N G { σ with env:=env' } tm' w :=
 {hS with sz:=hz,env:=he }

theorem PC.ext {P:Program} {f:Nat} {F:List AV→Option AV} (h:PC P f F) {args:List AV} {s:Value} (hF:F args=some (.one (.s s))) {G:Gh} {w wr:World} {vals:Array Value} (hsh:args.all AV.shr?=true) (hl:vals.size=args.length)
 (hA:∀ (i:Nat) x,args[i]?=some x→∃ v,vals[i]?=some v∧RA w G .ret x v) (hE:Ext w wr):Calls P f vals wr fun e w'=>e=.returned s∧Ext wr w':=by
 let G0:Gh:={ own:=fun _=>none,use:=(G.more w.heap.size fun _=>0).use,β:=G.β,live:=fun _=>False,age:=fun _=>0,cap:=G.cap }
 refine (h.2 args _ hF G0 wr vals (fun b t hb=>by cases hb) (fun k hk=>hk) (fun _=>rfl) ⟨hl,fun i x hi=>?_⟩).mono fun e w' he=>?_
 ·obtain ⟨v,hv,hr⟩:=hA i x hi
  refine ⟨v,hv,fun d t=>?_⟩
  rw [List.all_eq_true] at hsh
  have hx:=hsh x (List.mem_of_getElem? hi)
  have hr':=(znt hE G (fun _=>0) .ret []).ra0 hr
  cases x with
  | one c=>exact zjl (G:=G.more w.heap.size fun _=>0) hx (fun b hb=>⟨rfl,Nat.le_refl _⟩) hr'
  | ag cs =>
   obtain ⟨vs,rfl,hl2,hcs⟩:=hr'
   refine ⟨vs,rfl,hl2,fun j c hj=>?_⟩
   obtain ⟨y,hy,hrc⟩:=hcs j c hj
   simp only [AV.shr?,List.all_eq_true] at hx
   exact ⟨y,hy,zjl (G:=G.more w.heap.size fun _=>0) (hx c (List.mem_of_getElem? hj)) (fun b hb=>⟨rfl,Nat.le_refl _⟩) hrc⟩
  | tu l=>simp [AV.shr?] at hx
 ·obtain ⟨v,G',rfl,hr,hsz,hk,hold,_⟩:=he
  obtain ⟨rfl,_⟩:=hr
  exact ⟨rfl,hsz,hk,fun b hb=>(hold b hb).1⟩
theorem rd_scal {w:World} {G:Gh} {o:Ow} {p:List Nat} {vs:List Value} (hs:∀ v∈vs,scal v=true) {g cap:Nat} (hc:vs.length≤cap) (hown:G.own g=none) (hu:vs.length≤G.use g) (hcell:∀ (i:Nat) v,vs[i]?=some v→w.cell? ⟨g,i,none⟩=some v) :
 RD w G o .shr p (.sl vs.length (vs.map D.sc)) (.slice (some ⟨g,0,none⟩) vs.length cap):=by
 rw [RD]
 by_cases hx:vs=[]
 ·subst hx
  exact .inl ⟨rfl,rfl,_,_,rfl,by simp [Md.isOwn]⟩
 ·refine .inr ⟨by simpa using hx,List.length_pos_iff.2 hx,g,0,cap,rfl,hc,⟨hown,by simpa using hu⟩,zlb fun j d hd=>?_⟩
  rw [List.getElem?_map] at hd
  cases hj:vs[j]? with
  | none=>rw [hj] at hd;cases hd
  | some x =>
   rw [hj] at hd
   cases hd
   exact ⟨_,by simpa using hcell j x hj,by rw [RD];exact ⟨rfl,hs x (List.mem_of_getElem? hj)⟩⟩
theorem encL_i (xs:List Int):encL xs=(xs.map fun x=>Value.int .i64 x).map D.sc:=by
 induction xs with
 | nil=>rfl
 | cons x xs ih=>rw [zbj,ih];rfl
theorem encL_s (xs:List ByteArray):encL xs=(xs.map Value.string).map D.sc:=by
 induction xs with
 | nil=>rfl
 | cons x xs ih=>rw [zbj,ih];rfl

def fillU (w:World) (b:Nat):Nat:=match w.heap[b]? with
 | some (.cells arr _ _)=>arr.size
 | _=>0
theorem zli {w:World} {G:Gh} {o:Ow} {p:List Nat} {base e:Nat} {v:Value} {vs:List Value} (hs:∀ v∈vs,scal v=true) (h:w.ownsRow base e 1 v vs.length vs) (hown:∀ g,base≤g→G.own g=none) (hu:∀ g,base≤g→g < w.heap.size→G.use g=fillU w g) :
 RD w G o .shr p (.sl vs.length (vs.map D.sc)) v:=by
 rcases h.2 with ⟨rfl,h0⟩|⟨g,cap,cur,rfl,hb,hh,h1,h2,h3,h4⟩
 ·rw [List.length_eq_zero_iff.1 h0,RD]
  exact .inl ⟨rfl,rfl,_,_,rfl,by simp [Md.isOwn]⟩
 ·rw [Nat.mul_one] at h3 h4
  refine rd_scal hs h1 (hown g hb) ?_ fun i x hi=>?_
  ·rw [hu g hb (Array.getElem?_eq_some_iff.1 hh).1]
   unfold fillU
   rw [hh]
   show _≤cur.size
   omega
  ·have hlt:i < vs.length:=(List.getElem?_eq_some_iff.1 hi).1
   rw [← h4,List.getElem?_take_of_lt hlt] at hi
   simp only [World.cell?,hh]
   simp only [Option.isSome_none,Bool.false_eq_true,if_false]
   rw [← Array.getElem?_toList]
   exact hi

theorem below_ext {w w':World} (h:RowKit.Below w.heap.size w w'):Ext w w':=⟨h.size,⟨⟨h.os,h.tape,h.output⟩,fun a ha=>⟨Nat.lt_of_lt_of_le ha h.size,World.frozen?_of_block (h.block a.block ha)⟩⟩,h.block⟩
theorem pc_post {w w':World} {G:Gh} {r:AV} {v:Value} (hflat:∀ b t,G.own b=some t→t=.foreign∧b < w.heap.size) (hE:Ext w w') (hr:(∀ g,w.heap.size≤g→(G.more w.heap.size (fillU w')).own g=none)→(∀ g,w.heap.size≤g→(G.more w.heap.size (fillU w')).use g=fillU w' g)→RA w' (G.more w.heap.size (fillU w')) .ret r v) :
 ∃ v' G',Ending.returned v=.returned v'∧RA w' G' .ret r v'∧w.heap.size≤w'.heap.size∧Kept w w'∧(∀ b,b < w.heap.size→w'.heap[b]?=w.heap[b]?∧G'.own b=G.own b∧G'.use b=G.use b)∧∀ b t,G'.own b=some t→b < w'.heap.size:=by
 refine ⟨v,G.more w.heap.size (fillU w'),rfl,hr (fun g hg=>?_) (fun g hg=>?_),hE.size,hE.kept,fun b hb=>⟨hE.same b hb,rfl,?_⟩,fun b t hb=>Nat.lt_of_lt_of_le (hflat b t hb).2 hE.size⟩
 ·show G.own g=none
  cases ho:G.own g with
  | none=>rfl
  | some t=>have:=(hflat g t ho).2;omega
 ·show (if g < w.heap.size then _ else _)=_
  rw [if_neg (by omega)]
 ·show (if b < w.heap.size then _ else _)=_
  rw [if_pos hb]
end Go.Ev


namespace Go.Proofs
open Go.Ev Go.RowKit Go.Sort Go.Lib

structure LG (W1 wl:World) (m g3 c3 g4 c4:Nat) (l:List ByteArray) (gs:List R):Prop where
 rows:RowL wl W1.heap.size (⟨g3,c3,9,(sortN (dstN l)).map Value.string⟩ :: ⟨g4,c4,30,gs.map R.v⟩ :: gs)
 gi:GI (sortN (dstN l)) gs l
 len:(sortN (dstN l)).length=m
 bel:Below W1.heap.size W1 wl

theorem LG.lt {W1 wl:World} {m g3 c3 g4 c4:Nat} {l:List ByteArray} {gs:List R} (h:LG W1 wl m g3 c3 g4 c4 l gs):W1.heap.size≤wl.heap.size:=h.bel.size

theorem Tryz.info3':(Tryz.prog.info? 3).map (fun i=>(i.zero,i.size,i.bytes))=some (some (.int .i64 0),1,8):=by kernel_rfl
theorem Tryz.info9':(Tryz.prog.info? 9).map (fun i=>(i.zero,i.size,i.bytes))=some (some (.string ⟨#[]⟩),1,16):=by kernel_rfl
theorem Tryz.info30':(Tryz.prog.info? 30).map (fun i=>(i.zero,i.size,i.bytes))=some (some (.slice none 0 0),1,24):=by kernel_rfl

theorem zmv:sortN (dstN [])=[]:=List.length_eq_zero_iff.1 (by rw [zhc];rfl)
theorem LG.start (W1:World):LG W1 ((W1.alloc (.cells #[] 9)).alloc (.cells #[] 30)) 0 W1.heap.size 0 (W1.heap.size+1) 0 [] []:=by
 have h2:(W1.alloc (.cells #[] 9)).heap.size=W1.heap.size+1:=by simp
 have r1:=(RowL.nil (w:=W1) (base:=W1.heap.size)).lit #[] 9 (Nat.le_refl _) (Nat.zero_le _)
 have r2:=r1.lit #[] 30 (by rw [h2];omega) (Nat.zero_le _)
 rw [h2] at r2
 exact ⟨r2.perm (by rw [zmv];exact List.Perm.swap _ _ _),by unfold GI;rw [zmv];rfl,by rw [zmv];rfl,((Below.refl _ _).alloc (Nat.le_refl _) _).alloc (by rw [h2];omega) _⟩

theorem LG.called {W1 wl w2:World} {m g3 c3 g4 c4:Nat} {l:List ByteArray} {gs:List R} (h:LG W1 wl m g3 c3 g4 c4 l gs) (hE:Ext wl w2):LG W1 w2 m g3 c3 g4 c4 l gs :=
 {h with rows:=h.rows.grown (row:=none) ⟨hE.kept.1.1,hE.kept.1.2.1,hE.kept.1.2.2,hE.size,fun k hk _=>hE.same k hk⟩ (fun _ _=>by simp),bel:=h.bel.trans ⟨hE.kept.1.1,hE.kept.1.2.1,hE.kept.1.2.2,hE.size,fun k hk=>hE.same k (Nat.lt_of_lt_of_le hk h.lt)⟩ }
theorem below_ext' {w w':World} (h:Below w.heap.size w w'):Ext w w':=⟨h.size,⟨⟨h.os,h.tape,h.output⟩,fun a ha=>⟨Nat.lt_of_lt_of_le ha h.size,World.frozen?_of_block (h.block a.block ha)⟩⟩,h.block⟩
theorem LG.box {W0 wl:World} {m g3 c3 g4 c4 e:Nat} {x y:Value} {l:List ByteArray} {gs:List R} (h:LG (W0.alloc (.cells #[x,y] e)) wl m g3 c3 g4 c4 l gs):wl.cell? ⟨W0.heap.size,0,none⟩=some x∧wl.cell? ⟨W0.heap.size,1,none⟩=some y:=by
 have hb:=(h.bel.block W0.heap.size (by simp)).trans (MapKept.heap_alloc W0 (.cells #[x,y] e)).1
 constructor
 ·simp [World.cell?,hb]
 ·simp [World.cell?,hb]
theorem LG.ext {W0 wl:World} {m g3 c3 g4 c4:Nat} {o:Obj} {l:List ByteArray} {gs:List R} (h:LG (W0.alloc o) wl m g3 c3 g4 c4 l gs):Ext W0 wl :=
 (below_ext' ((Below.refl _ _).alloc (Nat.le_refl _) o)).trans (below_ext' h.bel)
theorem zof {gs:List R} {i:Nat} {r:R} (h:gs[i]?=some r) (N O:R):(N :: O :: gs).Perm (r :: N :: O :: (gs.take i ++ gs.drop (i+1))):=by
 have hlt:i < gs.length:=(List.getElem?_eq_some_iff.1 h).1
 have e:gs=gs.take i ++ r :: gs.drop (i+1):=by
  conv=>lhs;rw [← List.take_append_drop i gs]
  congr 1
  rw [List.drop_eq_getElem_cons hlt]
  congr 1
  exact (List.getElem?_eq_some_iff.1 h).2
 have h1:gs.Perm (r :: (gs.take i ++ gs.drop (i+1))):=by
  conv=>lhs;rw [e]
  exact List.perm_middle
 exact ((h1.cons O).trans (List.Perm.swap _ _ _)).cons N |>.trans (List.Perm.swap _ _ _)
theorem LG.seen {W1 w w5:World} {m g3 c3 g4 c4 i k gr cr g' cap':Nat} {l:List ByteArray} {gs:List R} {x:ByteArray} {xr:List Value} (h:LG W1 w m g3 c3 g4 c4 l gs) (hi:(sortN (dstN l))[i]?=some x) (hr:gs[i]?=some ⟨gr,cr,3,xr⟩) (hk:l.length=k)
 (H5:RowL w5 W1.heap.size (⟨g',cap',3,xr ++ [.int .i64 k]⟩ :: ⟨g3,c3,9,(sortN (dstN l)).map Value.string⟩ :: ⟨g4,c4,30,gs.map R.v⟩ :: (gs.take i ++ gs.drop (i+1)))) (hb:Below W1.heap.size W1 w5) :
 LG W1 (w5.setCell ⟨g4,i,none⟩ (.slice (some ⟨g',0,none⟩) (xr.length+1) cap')) m g3 c3 g4 c4 (l ++ [x]) (gs.set i ⟨g',cap',3,xr ++ [.int .i64 k]⟩):=by
 have hxl:x∈l:=(zhk l x).1 (List.mem_of_getElem? hi)
 have hilt:i < gs.length:=(List.getElem?_eq_some_iff.1 hr).1
 have hp:(⟨g',cap',3,xr ++ [.int .i64 k]⟩ :: ⟨g3,c3,9,(sortN (dstN l)).map Value.string⟩ :: ⟨g4,c4,30,gs.map R.v⟩ :: (gs.take i ++ gs.drop (i+1))).Perm (⟨g4,c4,30,gs.map R.v⟩ :: ⟨g',cap',3,xr ++ [.int .i64 k]⟩ :: ⟨g3,c3,9,(sortN (dstN l)).map Value.string⟩ :: (gs.take i ++ gs.drop (i+1))) :=
  ((List.Perm.swap _ _ _).cons _).trans (List.Perm.swap _ _ _)
 obtain ⟨h6,hg6⟩:=(H5.perm hp).set i (.slice (some ⟨g',0,none⟩) (xr.length+1) cap')
 have e1:(gs.map R.v).set i (.slice (some ⟨g',0,none⟩) (xr.length+1) cap')=(gs.set i ⟨g',cap',3,xr ++ [.int .i64 k]⟩).map R.v:=by
  rw [List.map_set]
  congr 1
  simp [R.v]
 have e2:gs.set i ⟨g',cap',3,xr ++ [.int .i64 k]⟩=gs.take i ++ ⟨g',cap',3,xr ++ [.int .i64 k]⟩ :: gs.drop (i+1):=List.set_eq_take_append_cons_drop .. |>.trans (by rw [if_pos hilt])
 refine ⟨?_,h.gi.seen hi hk rfl (by show xr ++ _=_;rw [show xr=_ from (h.gi.at hr hi).2]),by rw [zlh hxl];exact h.len,hb.grown hg6 hb.size (fun j hj=>by cases hj;exact (H5.lt (r:=⟨g4,c4,30,gs.map R.v⟩) (by simp)).1)⟩
 rw [zlh hxl]
 have h6':RowL (w5.setCell ⟨g4,i,none⟩ (.slice (some ⟨g',0,none⟩) (xr.length+1) cap')) W1.heap.size (⟨g4,c4,30,(gs.set i ⟨g',cap',3,xr ++ [.int .i64 k]⟩).map R.v⟩ :: ⟨g',cap',3,xr ++ [.int .i64 k]⟩ :: ⟨g3,c3,9,(sortN (dstN l)).map Value.string⟩ :: (gs.take i ++ gs.drop (i+1))):=by
  rw [← e1];exact h6
 refine h6'.perm ?_
 rw [e2]
 refine (((List.Perm.swap _ _ _).trans ((List.perm_middle.symm).cons _)).cons _).trans (List.Perm.swap _ _ _)

theorem cut_addr (g c i:Nat):∃ A:Addr,(if c=i then some (⟨g,0,none⟩:Addr) else some ⟨g,i,none⟩)=some A∧((A=⟨g,0,none⟩∧c=i)∨A=⟨g,i,none⟩):=by
 by_cases h:c=i
 ·exact ⟨_,if_pos h,.inl ⟨rfl,h⟩⟩
 ·exact ⟨_,if_neg h,.inr rfl⟩
theorem zky {w:World} {base:Nat} {L:List R} {g c e i:Nat} {xs:List Value} {A:Addr} (h:RowL w base L) (hr:⟨g,c,e,xs⟩∈L) (hA:(A=⟨g,0,none⟩∧c=i)∨A=⟨g,i,none⟩):∀ (j:Nat) u,(xs.drop i)[j]?=some u→w.cell? (A.add j)=some u:=by
 intro j u hu
 have hlen:=(h.len hr).1
 have hlt:=(List.getElem?_eq_some_iff.1 hu).1
 rw [List.length_drop] at hlt
 rcases hA with ⟨rfl,hc⟩ | rfl
 ·exfalso
  have:xs.length≤c:=hlen
  omega
 ·rw [Addr.add_lit]
  rw [List.getElem?_drop] at hu
  exact h.cell hr hu
theorem zfs {W1 w w':World} {g cap e:Nat} {xs:List Value} {L:List R} (hB:RowKit.Below W1.heap.size W1 w) (hR:RowL w W1.heap.size (⟨g,cap,e,xs⟩ :: L)) (hg:w.grownBy w' (some g)):RowKit.Below W1.heap.size W1 w' :=
 hB.grown hg hB.size (fun j hj=>by cases hj;exact (hR.lt (r:=⟨g,cap,e,xs⟩) (by simp)).1)
theorem LG.new {W1 w w6:World} {m g3 c3 g4 c4 i k gN cN gO cO gG cG gT cT m':Nat} {l:List ByteArray} {gs:List R} {x:ByteArray} {xT:List Value} (h:LG W1 w m g3 c3 g4 c4 l gs) (hs:x ∉ l∧sortN (dstN (l ++ [x]))=(sortN (dstN l)).take i ++ x :: (sortN (dstN l)).drop i) (hk:l.length=k) (hi:i≤m)
 (H6:RowL w6 W1.heap.size (⟨gO,cO,30,(gs.map R.v).take i ++ [.slice (some ⟨gG,0,none⟩) 1 cG] ++ (gs.map R.v).drop i⟩ :: ⟨gG,cG,3,[.int .i64 k]⟩ :: ⟨gT,cT,30,xT⟩ :: ⟨gN,cN,9,((sortN (dstN l)).map Value.string).take i ++ [.string x] ++ ((sortN (dstN l)).map Value.string).drop i⟩ :: gs)) (hb:RowKit.Below W1.heap.size W1 w6) (hm:m'=m+1) :
 LG W1 w6 m' gN cN gO cO (l ++ [x]) (gs.take i ++ ⟨gG,cG,3,[.int .i64 k]⟩ :: gs.drop i):=by
 have e1:(gs.map R.v).take i ++ [.slice (some ⟨gG,0,none⟩) 1 cG] ++ (gs.map R.v).drop i=(gs.take i ++ ⟨gG,cG,3,[.int .i64 k]⟩ :: gs.drop i).map R.v:=by
  rw [List.map_append,List.map_cons,List.map_take,List.map_drop,List.append_assoc]
  rfl
 have e2:((sortN (dstN l)).map Value.string).take i ++ [.string x] ++ ((sortN (dstN l)).map Value.string).drop i=(sortN (dstN (l ++ [x]))).map Value.string:=by
  rw [hs.2,List.map_append,List.map_cons,List.map_take,List.map_drop,List.append_assoc]
  rfl
 rw [e1,e2] at H6
 refine ⟨?_,h.gi.new hs hk rfl rfl,?_,hb⟩
 ·have h7:=(H6.perm (((List.Perm.swap _ _ _).cons _).trans (List.Perm.swap _ _ _))).tail
  refine h7.perm ?_
  have hp:(gs.take i ++ ⟨gG,cG,3,[.int .i64 k]⟩ :: gs.drop i).Perm (⟨gG,cG,3,[.int .i64 k]⟩ :: gs):=by
   conv=>rhs;rw [← List.take_append_drop i gs]
   exact List.perm_middle
  refine List.Perm.trans ?_ ((hp.symm.cons _).cons _)
  exact ((List.Perm.swap _ _ _).cons _).trans (List.Perm.swap _ _ _)
 ·rw [hs.2,List.length_append,List.length_cons,List.length_take,List.length_drop,h.len,hm]
  omega

set_option maxRecDepth 1000000 in
set_option maxHeartbeats 8000000 in
theorem walk32 {W0:World} {n scap:Nat} {names:List ByteArray} {c1:Value} {sa:Option Addr} (hn:names.length=n) (h12:n≤12) (hsz:∀ s∈names,s.size≤1000000)
 (hnode:∀ i,i < n→∀ wr,Ext W0 wr→Calls Tryz.prog 27 #[.agg #[.slice sa n scap,c1],.int .i64 i] wr fun e w'=>e=.returned (.string (names.getD i ByteArray.empty))∧Ext wr w') :
 Calls Tryz.prog 59 #[.agg #[.slice sa n scap,c1]] W0 fun e w'=>∃ m g3 c3 g4 c4 gs,e=.returned (.slice (some ⟨g4,0,none⟩) m c4)∧LG (W0.alloc (.cells #[.slice sa n scap,c1] 32)) w' m g3 c3 g4 c4 names gs:=by
 obtain ⟨i3,hi3,hz3,hs3,hb3⟩:=info_parts Tryz.info3'
 obtain ⟨i9,hi9,hz9,hs9,hb9⟩:=info_parts Tryz.info9'
 obtain ⟨i23,hi23,hz23,hs23,hb23⟩:=info_parts Tryz.info30'
 have HN:Hid _:=hnode
 have HS:Hid (∀ s∈names,s.size≤1000000):=hsz
 have HL:Hid (names.length=n):=hn
 clear hnode hsz hn
 go_enter Tryz.func59,Tryz.ntmps59
 go_wp2
 go_loopw [3,4,5] (fun v3 v4 i wl=>∃ (k m g3 c3 g4 c4:Nat) (gs:List R),k≤n∧i=.int .i64 k∧v3=.slice (some ⟨g3,0,none⟩) m c3∧v4=.slice (some ⟨g4,0,none⟩) m c4∧Hid (LG (W0.alloc (.cells #[.slice sa n scap,c1] 32)) wl m g3 c3 g4 c4 (names.take k) gs)) (fun _ _ i _=>n - (intOf i).toNat)
 case atStart=>exact ⟨0,0,W0.heap.size+1,0,W0.heap.size+1+1,0,[],Nat.zero_le _,rfl,rfl,rfl,by unfold Hid;have:=LG.start (W0.alloc (.cells #[.slice sa n scap,c1] 32));simpa using this⟩
 case round =>
  obtain ⟨k,m,g3,c3,g4,c4,gs,hk,rfl,rfl,rfl,HG⟩:=hrel
  by_cases hlt:k < n
  ·obtain ⟨c0,c1⟩:=HG.out.box
   have hc:=HN.out k hlt wr HG.out.ext
   have hx:names[k]?=some (names.getD k ByteArray.empty):=by rw [List.getD_eq_getElem?_getD,List.getElem?_eq_getElem (by have:=HL.out;omega)];rfl
   have hxs:(names.getD k ByteArray.empty).size≤1000000:=HS.out _ (List.mem_of_getElem? hx)
   have htk:names.take (k+1)=names.take k ++ [names.getD k ByteArray.empty]:=by rw [List.take_add_one,hx];rfl
   have htl:(names.take k).length=k:=by have:=HL.out;simp;omega
   generalize names.getD k ByteArray.empty=x at hc hx hxs htk
   have HTK:Hid _:=htk
   clear hx htk
   go_wp2_with (go_at_call 27;refine hc.mono ?_)
   rintro e w2 ⟨rfl,hE⟩
   have G2:Hid _:=HG.out.called hE
   clear HG hc hE c0 c1
   have hml:m≤k:=by have h1:=G2.out.len;have h2:=zib (names.take k);rw [zhc] at h1;omega
   go_wp2
   go_loopw [7] (fun j wl=>∃ i:Nat,wl=w2∧j=.int .i64 i∧i≤m∧Hid (∀ q y,q < i→(sortN (dstN (names.take k)))[q]?=some y→ltS y x=true)) (fun j _=>m - (intOf j).toNat)
   case atStart=>exact ⟨0,rfl,rfl,Nat.zero_le _,fun q y hq=>absurd hq (Nat.not_lt_zero q)⟩
   case round =>
    obtain ⟨i,rfl,rfl,him,HLt⟩:=hrel
    by_cases hil:i < m
    ·obtain ⟨y,hy⟩:∃ y,(sortN (dstN (names.take k)))[i]?=some y:=⟨_,List.getElem?_eq_getElem (by have:=G2.out.len;omega)⟩
     have hcy:wr.cell? ⟨g3,i,none⟩=some (.string y):=G2.out.rows.cell (List.mem_cons_self ..) (by rw [List.getElem?_map,hy];rfl)
     have HY:Hid _:=hy
     clear hy
     have hyt:Op.bytesLess y.toList x.toList=ltS y x:=by unfold ltS;rw [Lib.toList_data,Lib.toList_data]
     by_cases hlx:ltS y x=true
     ·rw [hlx] at hyt
      go_wp2
      refine ⟨⟨i+1,trivial,by simp,hil,fun q z hq hz=>?_⟩,by simp [intOf];omega⟩
      rcases Nat.lt_or_eq_of_le (Nat.le_of_lt_succ hq) with h | rfl
      ·exact HLt.out q z h hz
      ·rw [HY.out] at hz
       cases hz
       exact hlx
     ·have hlx:ltS y x=false:=by simpa using hlx
      rw [hlx] at hyt
      by_cases hxy:y=x
      ·subst hxy
       obtain ⟨⟨gr,cr,er,xr⟩,hr⟩:∃ r,gs[i]?=some r:=⟨_,List.getElem?_eq_getElem (by have h1:=G2.out.gi.len;have h2:=G2.out.len;omega)⟩
       obtain ⟨he,hxr⟩:=G2.out.gi.at hr HY.out
       have he:er=3:=he
       subst he
       have hxr:xr=_:=hxr
       have HP:=G2.out.rows.perm (zof hr _ _)
       have hcr:wr.cell? ⟨g4,i,none⟩=some (.slice (some ⟨gr,0,none⟩) xr.length cr):=G2.out.rows.cell (List.mem_cons_of_mem _ (List.mem_cons_self ..)) (by rw [List.getElem?_map,hr];rfl)
       have hpl:xr.length≤k:=by rw [hxr,List.length_map];have:=zjs y (names.take k) 0;omega
       obtain ⟨p,hp⟩:∃ p,xr.length=p:=⟨_,rfl⟩
       rw [hp] at hcr hpl
       have HR:Hid _:=hr
       clear hr hxr
       go_wp2_with (first
        | (at_builtin;refine zax (L:=_) rfl _ _ 30 rfl i3 (.int .i64 0) 8 Tryz.underlying30 hi3 hz3 hs3 hb3 rfl (HP.alloc _) hp rfl ⟨wr.heap.size,0,none⟩ 1 1 [.int .i64 k] rfl rfl (cell_one_new _ _ _) (ints_oneCell .i64 [(k:Int)]) (by unfold maxLen;omega) (by omega) (by have:=G2.out.lt;simp at this ⊢; omega) ?_;intro g' cap' w5 H5 hgrow hloc
           have cO:=H5.cell (r:=⟨g4,c4,30,gs.map R.v⟩) (by simp) (j:=i) (by rw [List.getElem?_map,HR.out];rfl)
           have fO:=H5.frozen (r:=⟨g4,c4,30,gs.map R.v⟩) (by simp) i)
        | go_in)
       subst hp
       have hB:RowKit.Below (W0.alloc (.cells #[.slice sa n scap,c1] 32)).heap.size (W0.alloc (.cells #[.slice sa n scap,c1] 32)) w5:=(G2.out.bel.alloc G2.out.lt _).grown hgrow (by have:=G2.out.lt;simp at this ⊢; omega) (fun j hj=>by cases hj;exact (HP.lt (r:=⟨gr,cr,3,xr⟩) (by simp)).1)
       have G6:=G2.out.seen HY.out HR.out htl H5 hB
       rw [← HTK.out] at G6
       exact ⟨⟨k+1,m,g3,c3,g4,c4,_,by omega,by simp,rfl,rfl,G6⟩,by simp [intOf];omega⟩
      ·have HGe:Hid (∀ z,(sortN (dstN (names.take k)))[i]?=some z→ltS z x=false∧z≠x):=fun z hz=>by rw [HY.out] at hz;cases hz;exact ⟨hlx,hxy⟩
       have hxb:(y.toList == x.toList)=false:=by
        rw [Lib.toList_data,Lib.toList_data]
        cases hb:(y.data.toList == x.data.toList) with
        | false=>rfl
        | true=>exact absurd (by obtain ⟨⟨a⟩⟩:=y;obtain ⟨⟨b⟩⟩:=x;simp at hb;rw [hb]) hxy
       have HNew:Hid _:=sortN_new (l:=names.take k) (x:=x) (i:=i) (by rw [G2.out.len];exact him) HLt.out HGe.out
       have hrl:=G2.out.rows.len (r:=⟨g3,c3,9,(sortN (dstN (names.take k))).map Value.string⟩) (by simp)
       have hrl4:=G2.out.rows.len (r:=⟨g4,c4,30,gs.map R.v⟩) (by simp)
       have hksl:((sortN (dstN (names.take k))).map Value.string).length=m:=by rw [List.length_map,G2.out.len]
       have hgsl:(gs.map R.v).length=m:=by rw [List.length_map,G2.out.gi.len,G2.out.len]
       have hmc3:m≤c3:=by have h1:=hrl.1;simp only [hksl] at h1;exact h1
       have hmc4:m≤c4:=by have h1:=hrl4.1;simp only [hgsl] at h1;exact h1
       have hic3:i≤c3:=by omega
       have hic4:i≤c4:=by omega
       have hsz0:=G2.out.lt
       simp only [World.size_alloc] at hsz0
       have HSL:Hid (((sortN (dstN (names.take k))).map Value.string).length=m∧(gs.map R.v).length=m):=⟨hksl,hgsl⟩
       have HB0:Hid _:=G2.out.bel
       have H1:Hid _:=G2.out.rows.lit #[] 9 G2.out.lt (Nat.zero_le _)
       obtain ⟨KS,hKS⟩:∃ KS,KS=(sortN (dstN (names.take k))).map Value.string:=⟨_,rfl⟩
       obtain ⟨VS,hVS⟩:∃ VS,VS=gs.map R.v:=⟨_,rfl⟩
       rw [← hKS,← hVS] at HSL
       rw [← hKS,← hVS] at H1
       have HKS:Hid _:=hKS
       have HVS:Hid _:=hVS
       clear hKS hVS hksl hgsl hrl hrl4 hxy
       have tok1:True:=trivial
       have tok2:True:=trivial
       have tok3:True:=trivial
       have tok4:True:=trivial
       have tok5:True:=trivial
       have tok6:True:=trivial
       go_wp2_with (first
        | (at_builtin;have _t:=tok1;go_loud (refine zax (L:=⟨g3,c3,9,KS⟩ :: ⟨g4,c4,30,VS⟩ :: gs) rfl _ _ 71 rfl i9 (.string ⟨#[]⟩) 16 Tryz.underlying71 hi9 hz9 hs9 hb9 rfl H1.out (n:=0) rfl rfl ⟨g3,i,none⟩ (m - i) (c3 - i) (KS.drop i) rfl (by simp [HSL.out.1]) (zky H1.out (g:=g3) (c:=c3) (e:=9) (by simp) (.inr rfl)) (by rw [HKS.out];intro u hu;obtain ⟨z,_,rfl⟩:=List.mem_map.1 (List.mem_of_mem_drop hu);rfl) (by unfold maxLen;omega) (by omega) (by simp;omega) ?_);intro gT1 cT1 w1 K1 gr1 lo1
           have B1:Hid _:=zfs (HB0.out.alloc G2.out.lt _) H1.out gr1
           have H2:Hid _:=((K1.perm (List.Perm.swap _ _ _)).take (n:=i) (by show i≤KS.length;rw [HSL.out.1];exact him)).alloc (.cells #[.string x] 9)
           have s1:=B1.out.size
           simp only [World.size_alloc] at s1
           clear tok1 K1 gr1 lo1)
        | (at_builtin;have _t:=tok2;go_loud (refine zax (L:=⟨gT1,cT1,9,[] ++ KS.drop i⟩ :: ⟨g4,c4,30,VS⟩ :: gs) rfl _ _ 71 rfl i9 (.string ⟨#[]⟩) 16 Tryz.underlying71 hi9 hz9 hs9 hb9 rfl H2.out (by show (KS.take i).length=i;rw [List.length_take,HSL.out.1];omega) rfl ⟨w1.heap.size,0,none⟩ 1 1 [.string x] rfl rfl (cell_one_new _ _ _) (by simp [Value.oneCell']) (by unfold maxLen;omega) (by omega) (by simp;omega) ?_);intro gN1 cN1 w2 K2 gr2 lo2
           have B2:Hid _:=zfs (B1.out.alloc B1.out.size _) H2.out gr2
           have H3:Hid _:=K2
           have s2:=B2.out.size
           simp only [World.size_alloc] at s2
           clear tok2 K2 gr2 lo2)
        | (at_builtin; have _t := tok3; go_loud (refine zax (L := ⟨gT1, cT1, 9, [] ++ KS.drop i⟩ :: ⟨g4, c4, 30, VS⟩ :: gs) rfl _ _ 71 rfl i9 (.string ⟨#[]⟩) 16 Tryz.underlying71 hi9 hz9 hs9 hb9 rfl H3.out (n := i + 1) (by simp [HSL.out.1]; omega) rfl ⟨gT1, 0, none⟩ (m - i) cT1 (KS.drop i) rfl (by simp [HSL.out.1]) (fun j u hu => by rw [Addr.add_lit, Nat.zero_add]; exact H3.out.cell (r := ⟨gT1, cT1, 9, [] ++ KS.drop i⟩) (by simp) hu) (by rw [HKS.out]; intro u hu; obtain ⟨z, _, rfl⟩ := List.mem_map.1 (List.mem_of_mem_drop hu); rfl) (by unfold maxLen; omega) (by omega) (by simp; omega) ?_); intro gN2 cN2 w3 K3 gr3 lo3
           have B3:Hid _:=zfs B2.out H3.out gr3
           have H4:Hid _:=((K3.perm (List.Perm.swap _ _ _)).tail).lit #[] 30 B3.out.size (Nat.zero_le _)
           have s3:=B3.out.size
           simp only [World.size_alloc] at s3
           clear tok3 K3 gr3 lo3)
        | (at_builtin;have _t:=tok4;go_loud (refine zax (L:=⟨gN2,cN2,9,KS.take i ++ [.string x] ++ KS.drop i⟩ :: ⟨g4,c4,30,VS⟩ :: gs) rfl _ _ 81 rfl i23 (.slice none 0 0) 24 Tryz.underlying81 hi23 hz23 hs23 hb23 rfl H4.out (n:=0) rfl rfl ⟨g4,i,none⟩ (m - i) (c4 - i) (VS.drop i) rfl (by simp [HSL.out.2]) (zky H4.out (g:=g4) (c:=c4) (e:=30) (by simp) (.inr rfl)) (by rw [HVS.out];intro u hu;obtain ⟨z,_,rfl⟩:=List.mem_map.1 (List.mem_of_mem_drop hu);rfl) (by unfold maxLen;omega) (by omega) (by simp;omega) ?_);intro gT2 cT2 w4 K4 gr4 lo4
           have B4:Hid _:=zfs (B3.out.alloc B3.out.size _) H4.out gr4
           have H5a:=(K4.perm (((List.Perm.swap _ _ _).cons _).trans (List.Perm.swap _ _ _))).take (n:=i) (by show i≤VS.length;rw [HSL.out.2];exact him)
           have H5:Hid _:=((H5a.lit #[.int .i64 k] 3 B4.out.size (by simp [maxLen])).perm (List.Perm.swap _ _ _)).alloc (.cells #[.slice (some ⟨w4.heap.size,0,none⟩) 1 1] 30)
           have s4:=B4.out.size
           simp only [World.size_alloc] at s4
           clear tok4 K4 gr4 lo4 H5a)
        | (at_builtin;have _t:=tok5;go_loud (refine zax (L:=⟨w4.heap.size,1,3,[.int .i64 k]⟩ :: ⟨gT2,cT2,30,[] ++ VS.drop i⟩ :: ⟨gN2,cN2,9,KS.take i ++ [.string x] ++ KS.drop i⟩ :: gs) rfl _ _ 81 rfl i23 (.slice none 0 0) 24 Tryz.underlying81 hi23 hz23 hs23 hb23 rfl H5.out (n:=i) (by show (VS.take i).length=i;rw [List.length_take,HSL.out.2];omega) rfl ⟨w4.heap.size+1,0,none⟩ 1 1 [.slice (some ⟨w4.heap.size,0,none⟩) 1 1] rfl rfl (by have:=cell_one_new (w4.alloc (.cells #[.int .i64 k] 3)) (.slice (some ⟨w4.heap.size,0,none⟩) 1 1) 30;rw [World.size_alloc] at this;exact this) (by simp [Value.oneCell']) (by unfold maxLen;omega) (by omega) (by simp;omega) ?_);intro gO1 cO1 w5 K5 gr5 lo5
           have B5:Hid _:=zfs ((B4.out.alloc B4.out.size _).alloc (by have:=B4.out.size;simp only [World.size_alloc] at this ⊢; omega) _) H5.out gr5
           have H6:Hid _:=K5
           have s5:=B5.out.size
           simp only [World.size_alloc] at s5
           clear tok5 K5 gr5 lo5)
        | (at_builtin; have _t := tok6; go_loud (refine zax (L := ⟨w4.heap.size, 1, 3, [.int .i64 k]⟩ :: ⟨gT2, cT2, 30, [] ++ VS.drop i⟩ :: ⟨gN2, cN2, 9, KS.take i ++ [.string x] ++ KS.drop i⟩ :: gs) rfl _ _ 81 rfl i23 (.slice none 0 0) 24 Tryz.underlying81 hi23 hz23 hs23 hb23 rfl H6.out (n := i + 1) (by simp [HSL.out.2]; omega) rfl ⟨gT2, 0, none⟩ (m - i) cT2 (VS.drop i) rfl (by simp [HSL.out.2]) (fun j u hu => by rw [Addr.add_lit, Nat.zero_add]; exact H6.out.cell (r := ⟨gT2, cT2, 30, [] ++ VS.drop i⟩) (by simp) hu) (by rw [HVS.out]; intro u hu; obtain ⟨z, _, rfl⟩ := List.mem_map.1 (List.mem_of_mem_drop hu); rfl) (by unfold maxLen; omega) (by omega) (by simp; omega) ?_); intro gO2 cO2 w6 K6 gr6 lo6
           have B6:Hid _:=zfs B5.out H6.out gr6
           have H7:Hid _:=K6
           clear tok6 K6 gr6 lo6)
        | go_in)
       have H8:=H7.out
       rw [HKS.out,HVS.out] at H8
       have G6:=G2.out.new HNew.out htl him H8 B6.out (m':=i+1+(m - i)) (by omega)
       rw [← HTK.out] at G6
       exact ⟨⟨k+1,_,gN2,cN2,gO2,cO2,_,by omega,by simp,rfl,rfl,G6⟩,by simp [intOf];omega⟩
    ·have HGe:Hid (∀ z,(sortN (dstN (names.take k)))[i]?=some z→ltS z x=false∧z≠x):=fun z hz=>by have h1:=(List.getElem?_eq_some_iff.1 hz).1;have h2:=G2.out.len;omega
     have HNew:Hid _:=sortN_new (l:=names.take k) (x:=x) (i:=i) (by rw [G2.out.len];exact him) HLt.out HGe.out
     have hrl:=G2.out.rows.len (r:=⟨g3,c3,9,(sortN (dstN (names.take k))).map Value.string⟩) (by simp)
     have hrl4:=G2.out.rows.len (r:=⟨g4,c4,30,gs.map R.v⟩) (by simp)
     have hksl:((sortN (dstN (names.take k))).map Value.string).length=m:=by rw [List.length_map,G2.out.len]
     have hgsl:(gs.map R.v).length=m:=by rw [List.length_map,G2.out.gi.len,G2.out.len]
     have hmc3:m≤c3:=by have h1:=hrl.1;simp only [hksl] at h1;exact h1
     have hmc4:m≤c4:=by have h1:=hrl4.1;simp only [hgsl] at h1;exact h1
     have hic3:i≤c3:=by omega
     have hic4:i≤c4:=by omega
     obtain ⟨A3,hA3,hA3'⟩:=cut_addr g3 c3 i
     obtain ⟨A4,hA4,hA4'⟩:=cut_addr g4 c4 i
     have hsz0:=G2.out.lt
     simp only [World.size_alloc] at hsz0
     have HA3:Hid _:=hA3'
     have HA4:Hid _:=hA4'
     have HSL:Hid (((sortN (dstN (names.take k))).map Value.string).length=m∧(gs.map R.v).length=m):=⟨hksl,hgsl⟩
     have HB0:Hid _:=G2.out.bel
     have H1:Hid _:=G2.out.rows.lit #[] 9 G2.out.lt (Nat.zero_le _)
     obtain ⟨KS,hKS⟩:∃ KS,KS=(sortN (dstN (names.take k))).map Value.string:=⟨_,rfl⟩
     obtain ⟨VS,hVS⟩:∃ VS,VS=gs.map R.v:=⟨_,rfl⟩
     rw [← hKS,← hVS] at HSL
     rw [← hKS,← hVS] at H1
     have HKS:Hid _:=hKS
     have HVS:Hid _:=hVS
     clear hKS hVS hksl hgsl hrl hrl4 hA3' hA4'
     have tok1:True:=trivial
     have tok2:True:=trivial
     have tok3:True:=trivial
     have tok4:True:=trivial
     have tok5:True:=trivial
     have tok6:True:=trivial
     go_wp2_with (first
      | (at_builtin;have _t:=tok1;go_loud (refine zax (L:=⟨g3,c3,9,KS⟩ :: ⟨g4,c4,30,VS⟩ :: gs) rfl _ _ 71 rfl i9 (.string ⟨#[]⟩) 16 Tryz.underlying71 hi9 hz9 hs9 hb9 rfl H1.out (n:=0) rfl rfl A3 (m - i) (c3 - i) (KS.drop i) rfl (by simp [HSL.out.1]) (zky H1.out (g:=g3) (c:=c3) (e:=9) (by simp) HA3.out) (by rw [HKS.out];intro u hu;obtain ⟨z,_,rfl⟩:=List.mem_map.1 (List.mem_of_mem_drop hu);rfl) (by unfold maxLen;omega) (by omega) (by simp;omega) ?_);intro gT1 cT1 w1 K1 gr1 lo1
         have B1:Hid _:=zfs (HB0.out.alloc G2.out.lt _) H1.out gr1
         have H2:Hid _:=((K1.perm (List.Perm.swap _ _ _)).take (n:=i) (by show i≤KS.length;rw [HSL.out.1];exact him)).alloc (.cells #[.string x] 9)
         have s1:=B1.out.size
         simp only [World.size_alloc] at s1
         clear tok1 K1 gr1 lo1)
      | (at_builtin;have _t:=tok2;go_loud (refine zax (L:=⟨gT1,cT1,9,[] ++ KS.drop i⟩ :: ⟨g4,c4,30,VS⟩ :: gs) rfl _ _ 71 rfl i9 (.string ⟨#[]⟩) 16 Tryz.underlying71 hi9 hz9 hs9 hb9 rfl H2.out (by show (KS.take i).length=i;rw [List.length_take,HSL.out.1];omega) rfl ⟨w1.heap.size,0,none⟩ 1 1 [.string x] rfl rfl (cell_one_new _ _ _) (by simp [Value.oneCell']) (by unfold maxLen;omega) (by omega) (by simp;omega) ?_);intro gN1 cN1 w2 K2 gr2 lo2
         have B2:Hid _:=zfs (B1.out.alloc B1.out.size _) H2.out gr2
         have H3:Hid _:=K2
         have s2:=B2.out.size
         simp only [World.size_alloc] at s2
         clear tok2 K2 gr2 lo2)
      | (at_builtin; have _t := tok3; go_loud (refine zax (L := ⟨gT1, cT1, 9, [] ++ KS.drop i⟩ :: ⟨g4, c4, 30, VS⟩ :: gs) rfl _ _ 71 rfl i9 (.string ⟨#[]⟩) 16 Tryz.underlying71 hi9 hz9 hs9 hb9 rfl H3.out (n := i + 1) (by simp [HSL.out.1]; omega) rfl ⟨gT1, 0, none⟩ (m - i) cT1 (KS.drop i) rfl (by simp [HSL.out.1]) (fun j u hu => by rw [Addr.add_lit, Nat.zero_add]; exact H3.out.cell (r := ⟨gT1, cT1, 9, [] ++ KS.drop i⟩) (by simp) hu) (by rw [HKS.out]; intro u hu; obtain ⟨z, _, rfl⟩ := List.mem_map.1 (List.mem_of_mem_drop hu); rfl) (by unfold maxLen; omega) (by omega) (by simp; omega) ?_); intro gN2 cN2 w3 K3 gr3 lo3
         have B3:Hid _:=zfs B2.out H3.out gr3
         have H4:Hid _:=((K3.perm (List.Perm.swap _ _ _)).tail).lit #[] 30 B3.out.size (Nat.zero_le _)
         have s3:=B3.out.size
         simp only [World.size_alloc] at s3
         clear tok3 K3 gr3 lo3)
      | (at_builtin;have _t:=tok4;go_loud (refine zax (L:=⟨gN2,cN2,9,KS.take i ++ [.string x] ++ KS.drop i⟩ :: ⟨g4,c4,30,VS⟩ :: gs) rfl _ _ 81 rfl i23 (.slice none 0 0) 24 Tryz.underlying81 hi23 hz23 hs23 hb23 rfl H4.out (n:=0) rfl rfl A4 (m - i) (c4 - i) (VS.drop i) rfl (by simp [HSL.out.2]) (zky H4.out (g:=g4) (c:=c4) (e:=30) (by simp) HA4.out) (by rw [HVS.out];intro u hu;obtain ⟨z,_,rfl⟩:=List.mem_map.1 (List.mem_of_mem_drop hu);rfl) (by unfold maxLen;omega) (by omega) (by simp;omega) ?_);intro gT2 cT2 w4 K4 gr4 lo4
         have B4:Hid _:=zfs (B3.out.alloc B3.out.size _) H4.out gr4
         have H5a:=(K4.perm (((List.Perm.swap _ _ _).cons _).trans (List.Perm.swap _ _ _))).take (n:=i) (by show i≤VS.length;rw [HSL.out.2];exact him)
         have H5:Hid _:=((H5a.lit #[.int .i64 k] 3 B4.out.size (by simp [maxLen])).perm (List.Perm.swap _ _ _)).alloc (.cells #[.slice (some ⟨w4.heap.size,0,none⟩) 1 1] 30)
         have s4:=B4.out.size
         simp only [World.size_alloc] at s4
         clear tok4 K4 gr4 lo4 H5a)
      | (at_builtin;have _t:=tok5;go_loud (refine zax (L:=⟨w4.heap.size,1,3,[.int .i64 k]⟩ :: ⟨gT2,cT2,30,[] ++ VS.drop i⟩ :: ⟨gN2,cN2,9,KS.take i ++ [.string x] ++ KS.drop i⟩ :: gs) rfl _ _ 81 rfl i23 (.slice none 0 0) 24 Tryz.underlying81 hi23 hz23 hs23 hb23 rfl H5.out (n:=i) (by show (VS.take i).length=i;rw [List.length_take,HSL.out.2];omega) rfl ⟨w4.heap.size+1,0,none⟩ 1 1 [.slice (some ⟨w4.heap.size,0,none⟩) 1 1] rfl rfl (by have:=cell_one_new (w4.alloc (.cells #[.int .i64 k] 3)) (.slice (some ⟨w4.heap.size,0,none⟩) 1 1) 30;rw [World.size_alloc] at this;exact this) (by simp [Value.oneCell']) (by unfold maxLen;omega) (by omega) (by simp;omega) ?_);intro gO1 cO1 w5 K5 gr5 lo5
         have B5:Hid _:=zfs ((B4.out.alloc B4.out.size _).alloc (by have:=B4.out.size;simp only [World.size_alloc] at this ⊢; omega) _) H5.out gr5
         have H6:Hid _:=K5
         have s5:=B5.out.size
         simp only [World.size_alloc] at s5
         clear tok5 K5 gr5 lo5)
      | (at_builtin; have _t := tok6; go_loud (refine zax (L := ⟨w4.heap.size, 1, 3, [.int .i64 k]⟩ :: ⟨gT2, cT2, 30, [] ++ VS.drop i⟩ :: ⟨gN2, cN2, 9, KS.take i ++ [.string x] ++ KS.drop i⟩ :: gs) rfl _ _ 81 rfl i23 (.slice none 0 0) 24 Tryz.underlying81 hi23 hz23 hs23 hb23 rfl H6.out (n := i + 1) (by simp [HSL.out.2]; omega) rfl ⟨gT2, 0, none⟩ (m - i) cT2 (VS.drop i) rfl (by simp [HSL.out.2]) (fun j u hu => by rw [Addr.add_lit, Nat.zero_add]; exact H6.out.cell (r := ⟨gT2, cT2, 30, [] ++ VS.drop i⟩) (by simp) hu) (by rw [HVS.out]; intro u hu; obtain ⟨z, _, rfl⟩ := List.mem_map.1 (List.mem_of_mem_drop hu); rfl) (by unfold maxLen; omega) (by omega) (by simp; omega) ?_); intro gO2 cO2 w6 K6 gr6 lo6
         have B6:Hid _:=zfs B5.out H6.out gr6
         have H7:Hid _:=K6
         clear tok6 K6 gr6 lo6)
      | go_in)
     have H8:=H7.out
     rw [HKS.out,HVS.out] at H8
     have G6:=G2.out.new HNew.out htl him H8 B6.out (m':=i+1+(m - i)) (by omega)
     rw [← HTK.out] at G6
     exact ⟨⟨k+1,_,gN2,cN2,gO2,cO2,_,by omega,by simp,rfl,rfl,G6⟩,by simp [intOf];omega⟩
  ·obtain rfl:k=n:=by omega
   have hall:names.take k=names:=List.take_of_length_le (by have:=HL.out;omega)
   rw [hall] at HG
   obtain ⟨c0,c1⟩:=HG.out.box
   go_wp2
   go_ret
   exact ⟨_,_,_,_,_,_,rfl,HG.out⟩
end Go.Proofs

