import Derived.Test.YtahcfnjgllpkdaaEvTy
import Derived.KernelRfl
set_option linter.unusedSimpArgs false
set_option linter.unusedVariables false
set_option linter.unnecessarySimpa false
namespace Go.Ev

/-- two structs, field by field -/
def eqFs (P : Program) (d : Nat) (xs ys : Array Value) : List Field → Option Bool
  | [] => some true
  | f :: r => if f.name ≠ "_" then
      (pureOf P (do let a ← part f.type xs f.offset; let b ← part f.type ys f.offset; Op.equalIn d f.type a b)).bind fun e => if e then eqFs P d xs ys r else some false
    else eqFs P d xs ys r

theorem pureOf_pure {α : Type} (P : Program) (a : α) : pureOf P (pure a : Sem α) = some a := rfl
theorem pureOf_program {α : Type} (P : Program) (k : Program → Sem α) : pureOf P (do let p ← program; k p) = pureOf P (k P) := rfl

theorem pureOf_struct {P : Program} {d t : Nat} {fs : Array Field} {xs ys : Array Value} (hu : P.underlying t = some (.struct fs)) (hs : P.stoodInHeld t = false) :
    pureOf P (Op.equalIn (d + 1) t (.agg xs) (.agg ys)) = eqFs P d xs ys fs.toList := by
  have hu' : pureOf P (underlying t) = some (.struct fs) := by
    have : pureOf P (underlying t) = pureOf P (match P.underlying t with | some d => pure d | none => stuck "no such type") := rfl
    rw [this, hu]
    rfl
  rw [Op.equalIn, pureOf_bind, hu']
  simp only [Option.bind_some]
  rw [pureOf_bind]
  have hp : pureOf P program = some P := rfl
  rw [hp]
  simp only [Option.bind_some, hs, Bool.false_eq_true, if_false]
  rw [← Array.forIn_toList]
  induction fs.toList with
  | nil => rfl
  | cons f l ih =>
    rw [List.forIn_cons]
    simp only [eqFs]
    by_cases hn : f.name ≠ "_"
    · rw [if_pos hn, if_pos hn]
      simp only [pureOf_bind, Option.bind_assoc] at ih ⊢
      congr 1
      funext a
      congr 1
      funext b
      congr 1
      funext e
      cases e with
      | true => simpa [pureOf_pure] using ih
      | false => simp [pureOf_pure]
    · rw [if_neg hn, if_neg hn]
      simp only [pureOf_bind, pureOf_pure, Option.bind_some] at ih ⊢
      exact ih

theorem pureOf_underlying {P : Program} {t : Nat} {d : TypeDesc} (hu : P.underlying t = some d) : pureOf P (underlying t) = some d := by
  have : pureOf P (underlying t) = pureOf P (match P.underlying t with | some d => pure d | none => stuck "no such type") := rfl
  rw [this, hu]
  rfl
theorem eqIn_int {P : Program} {d t : Nat} (hu : P.underlying t = some (.int .i64)) (a b : Int) : pureOf P (Op.equalIn (d + 1) t (.int .i64 a) (.int .i64 b)) = some (a == b) := by
  rw [Op.equalIn, pureOf_bind, pureOf_underlying hu]
  rfl
theorem eqIn_string {P : Program} {d t : Nat} (hu : P.underlying t = some .string) (a b : ByteArray) : pureOf P (Op.equalIn (d + 1) t (.string a) (.string b)) = some (a == b) := by
  rw [Op.equalIn, pureOf_bind, pureOf_underlying hu]
  rfl
theorem eqIn_bool {P : Program} {d t : Nat} (hu : P.underlying t = some .bool) (a b : Bool) : pureOf P (Op.equalIn (d + 1) t (.bool a) (.bool b)) = some (a == b) := by
  rw [Op.equalIn, pureOf_bind, pureOf_underlying hu]
  rfl
@[simp] theorem tb_eqlB (P : Program) {t : TypeId} (x y : Operand) (a b : Bool) (hu : P.underlying t = some .bool) : binAV P .eql t x y (vB a) (vB b) = some (.bool (eqB a b)) := by
  have h1 : pureOf P (do eqGuard .eql t x y (.bool a) (.bool b); binOp .eql t (.bool a) (.bool b)) = some (.bool (a == b)) := by
    show pureOf P (Op.equalIn (9999 + 1) t (.bool a) (.bool b) >>= fun r => pure (Value.bool r)) = _
    rw [pureOf_bind, eqIn_bool hu]
    rfl
  simp [binAV, sclr, h1, scal, eqB]
@[simp] theorem tb_neqB (P : Program) {t : TypeId} (x y : Operand) (a b : Bool) (hu : P.underlying t = some .bool) : binAV P .neq t x y (vB a) (vB b) = some (.bool (neB a b)) := by
  have h1 : pureOf P (do eqGuard .neq t x y (.bool a) (.bool b); binOp .neq t (.bool a) (.bool b)) = some (.bool !(a == b)) := by
    show pureOf P (Op.equalIn (9999 + 1) t (.bool a) (.bool b) >>= fun r => pure (Value.bool !r)) = _
    rw [pureOf_bind, eqIn_bool hu]
    rfl
  simp [binAV, sclr, h1, scal, neB]
theorem pureOf_isAgg {P : Program} {t : Nat} {i : TI} (h : ti P t = some i) : pureOf P (isAgg t) = some i.agg := by
  obtain ⟨info, dd, z, _, h2, _, _, _, h4, _⟩ := ti_spec h
  unfold isAgg
  rw [pureOf_bind, pureOf_underlying h2, h4]
  cases dd <;> rfl
theorem pureOf_part {P : Program} {t : Nat} {i : TI} (h : ti P t = some i) (cs : Array Value) (off : Nat) : pureOf P (part t cs off) = if i.agg then some (.agg (cs.extract off (off + i.size))) else cs[off]? := by
  unfold part
  rw [pureOf_bind, pureOf_isAgg h, Option.bind_some]
  cases i.agg with
  | true =>
    obtain ⟨info, h1, h2, _⟩ := ti_info h
    have hs : pureOf P (sizeOf t) = some i.size := by
      have : pureOf P (sizeOf t) = (pureOf P (typeInfo t)).bind fun x => some x.size := by
        unfold sizeOf
        first | rw [pureOf_bind]; rfl | rfl
      have ht : pureOf P (typeInfo t) = some info := by
        have : pureOf P (typeInfo t) = pureOf P (match P.info? t with | some i => pure i | none => stuck "no such type") := rfl
        rw [this, h1]; rfl
      rw [this, ht, Option.bind_some, h2]
    simp only [if_true, pureOf_bind, hs]
    rfl
  | false =>
    simp only [Bool.false_eq_true, if_false]
    cases cs[off]? <;> rfl

theorem guard_agg {P : Program} {t : Nat} (op : BinOp) (x y : Operand) (xs ys : Array Value) (hop : op = .eql ∨ op = .neq) (h : P.eqGuardType P.depth t = false) : pureOf P (eqGuard op t x y (.agg xs) (.agg ys)) = some () := by
  rcases hop with rfl | rfl
  · have : pureOf P (eqGuard .eql t x y (.agg xs) (.agg ys)) = pureOf P (if !(P.eqGuardType P.depth t) then pure () else do if ← Op.eqGuardIn Op.maxDepth t (.agg xs) (.agg ys) then unsupported (.noEntry "binop/eql: two nil values of an interface type with methods, in a part of a struct or an array")) := rfl
    rw [this, h]; rfl
  · have : pureOf P (eqGuard .neq t x y (.agg xs) (.agg ys)) = pureOf P (if !(P.eqGuardType P.depth t) then pure () else do if ← Op.eqGuardIn Op.maxDepth t (.agg xs) (.agg ys) then unsupported (.noEntry "binop/eql: two nil values of an interface type with methods, in a part of a struct or an array")) := rfl
    rw [this, h]; rfl

theorem bin_neqAg {P : Program} {t : Nat} {fs : Array Field} {x y : Operand} {cs ds : List C} {us vs : List Value} (hu : P.underlying t = some (.struct fs)) (hs : P.stoodInHeld t = false) (hg : P.eqGuardType P.depth t = false) (h1 : cs.mapM C.sval = some us) (h2 : ds.mapM C.sval = some vs)
    {b : Bool} (hb : eqFs P 9999 us.toArray vs.toArray fs.toList = some b) : binAV P .neq t x y (.ag cs) (.ag ds) = some (.bool (!b)) := by
  have e1 : sclr (.ag cs) = some (.agg us.toArray) := by simp [sclr, h1]
  have e2 : sclr (.ag ds) = some (.agg vs.toArray) := by simp [sclr, h2]
  have hq : pureOf P (Op.equal t (.agg us.toArray) (.agg vs.toArray)) = some b := by
    show pureOf P (Op.equalIn (9999 + 1) t _ _) = _
    rw [pureOf_struct hu hs, hb]
  have hbin : pureOf P (binOp .neq t (.agg us.toArray) (.agg vs.toArray)) = some (.bool (!b)) := by
    show pureOf P (Op.equal t (.agg us.toArray) (.agg vs.toArray) >>= fun r => pure (Value.bool (!r))) = _
    rw [pureOf_bind, hq]
    rfl
  unfold binAV
  rw [e1, e2]
  simp only [Option.isSome_some, Bool.and_self, if_true, Option.getD_some, pureOf_bind, guard_agg .neq x y _ _ (.inr rfl) hg, Option.bind_some, hbin]
  rfl

theorem bin_eqlAg {P : Program} {t : Nat} {fs : Array Field} {x y : Operand} {cs ds : List C} {us vs : List Value} (hu : P.underlying t = some (.struct fs)) (hs : P.stoodInHeld t = false) (hg : P.eqGuardType P.depth t = false) (h1 : cs.mapM C.sval = some us) (h2 : ds.mapM C.sval = some vs)
    {b : Bool} (hb : eqFs P 9999 us.toArray vs.toArray fs.toList = some b) : binAV P .eql t x y (.ag cs) (.ag ds) = some (.bool b) := by
  have e1 : sclr (.ag cs) = some (.agg us.toArray) := by simp [sclr, h1]
  have e2 : sclr (.ag ds) = some (.agg vs.toArray) := by simp [sclr, h2]
  have hq : pureOf P (Op.equal t (.agg us.toArray) (.agg vs.toArray)) = some b := by
    show pureOf P (Op.equalIn (9999 + 1) t _ _) = _
    rw [pureOf_struct hu hs, hb]
  have hbin : pureOf P (binOp .eql t (.agg us.toArray) (.agg vs.toArray)) = some (.bool b) := by
    show pureOf P (Op.equal t (.agg us.toArray) (.agg vs.toArray) >>= fun r => pure (Value.bool r)) = _
    rw [pureOf_bind, hq]
    rfl
  unfold binAV
  rw [e1, e2]
  simp only [Option.isSome_some, Bool.and_self, if_true, Option.getD_some, pureOf_bind, guard_agg .eql x y _ _ (.inl rfl) hg, Option.bind_some, hbin]
  rfl

end Go.Ev
