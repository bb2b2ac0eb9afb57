import Derived.Test.YtahcfnjgllpkdaaEvP
import Derived.Test.YtahcfnjgllpkdaaProg
import Derived.KernelRfl
namespace Go.Proofs
open Go.Ev
@[simp] theorem ti_3 : ti Try.prog 3 = some { size := 1, bytes := 8, agg := false, elem := none, flds := [], zero := [.int .i64 0] } := by kernel_rfl
@[simp] theorem ti_4 : ti Try.prog 4 = some { size := 1, bytes := 1, agg := false, elem := none, flds := [], zero := [.bool false] } := by kernel_rfl
attribute [simp] Try.underlying4
@[simp] theorem ti_9 : ti Try.prog 9 = some { size := 1, bytes := 16, agg := false, elem := none, flds := [], zero := [.string ByteArray.empty] } := by kernel_rfl
attribute [simp] Try.underlying9
@[simp] theorem ti_22 : ti Try.prog 22 = some { size := 1, bytes := 24, agg := false, elem := some 72, flds := [], zero := [.slice none 0 0] } := by kernel_rfl
@[simp] theorem ti_27 : ti Try.prog 27 = some { size := 1, bytes := 24, agg := false, elem := some 9, flds := [], zero := [.slice none 0 0] } := by kernel_rfl
@[simp] theorem ti_28 : ti Try.prog 28 = some { size := 1, bytes := 24, agg := false, elem := some 166, flds := [], zero := [.slice none 0 0] } := by kernel_rfl
@[simp] theorem ti_30 : ti Try.prog 30 = some { size := 3, bytes := 56, agg := true, elem := none, flds := [(0, 27), (1, 3), (2, 28)], zero := [.slice none 0 0, .int .i64 0, .slice none 0 0] } := by kernel_rfl
@[simp] theorem ti_31 : ti Try.prog 31 = some { size := 1, bytes := 24, agg := false, elem := some 130, flds := [], zero := [.slice none 0 0] } := by kernel_rfl
@[simp] theorem ti_33 : ti Try.prog 33 = some { size := 4, bytes := 80, agg := true, elem := none, flds := [(0, 30), (3, 31)], zero := [.slice none 0 0, .int .i64 0, .slice none 0 0, .slice none 0 0] } := by kernel_rfl
@[simp] theorem ti_36 : ti Try.prog 36 = some { size := 1, bytes := 24, agg := false, elem := some 134, flds := [], zero := [.slice none 0 0] } := by kernel_rfl
@[simp] theorem ti_38 : ti Try.prog 38 = some { size := 3, bytes := 56, agg := true, elem := none, flds := [(0, 27), (1, 3), (2, 36)], zero := [.slice none 0 0, .int .i64 0, .slice none 0 0] } := by kernel_rfl
@[simp] theorem ti_40 : ti Try.prog 40 = some { size := 4, bytes := 80, agg := true, elem := none, flds := [(0, 38), (3, 22)], zero := [.slice none 0 0, .int .i64 0, .slice none 0 0, .slice none 0 0] } := by kernel_rfl
@[simp] theorem ti_44 : ti Try.prog 44 = some { size := 1, bytes := 24, agg := false, elem := some 3, flds := [], zero := [.slice none 0 0] } := by kernel_rfl
@[simp] theorem ti_72 : ti Try.prog 72 = some { size := 2, bytes := 48, agg := true, elem := none, flds := [(0, 44), (1, 44)], zero := [.slice none 0 0, .slice none 0 0] } := by kernel_rfl
@[simp] theorem ti_130 : ti Try.prog 130 = some { size := 2, bytes := 48, agg := true, elem := none, flds := [(0, 44), (1, 44)], zero := [.slice none 0 0, .slice none 0 0] } := by kernel_rfl
@[simp] theorem ti_132 : ti Try.prog 132 = some { size := 3, bytes := 40, agg := true, elem := none, flds := [(0, 3), (1, 9), (2, 9)], zero := [.int .i64 0, .string ByteArray.empty, .string ByteArray.empty] } := by kernel_rfl
@[simp] theorem ti_134 : ti Try.prog 134 = some { size := 5, bytes := 56, agg := true, elem := none, flds := [(0, 3), (1, 3), (2, 132)], zero := [.int .i64 0, .int .i64 0, .int .i64 0, .string ByteArray.empty, .string ByteArray.empty] } := by kernel_rfl
@[simp] theorem ti_164 : ti Try.prog 164 = some { size := 3, bytes := 40, agg := true, elem := none, flds := [(0, 3), (1, 9), (2, 9)], zero := [.int .i64 0, .string ByteArray.empty, .string ByteArray.empty] } := by kernel_rfl
@[simp] theorem ti_166 : ti Try.prog 166 = some { size := 5, bytes := 56, agg := true, elem := none, flds := [(0, 3), (1, 3), (2, 164)], zero := [.int .i64 0, .int .i64 0, .int .i64 0, .string ByteArray.empty, .string ByteArray.empty] } := by kernel_rfl
theorem eq_134 (x y : Operand) (a b : TEdge) : binAV Try.prog .eql 134 x y (av .shr a) (av .shr b) = some (.bool (eqTEdge a b)) := by
  refine bin_eqlAg Try.underlying134 (by kernel_rfl) (by kernel_rfl) rfl rfl (b := eqTEdge a b) ?_
  simp [eqFs, pureOf_bind, pureOf_part ti_3, pureOf_part ti_9, pureOf_part ti_132, eqIn_int Try.underlying3, eqIn_string Try.underlying9, pureOf_struct Try.underlying132 (show Try.prog.stoodInHeld 132 = false by kernel_rfl), eqTStmt, eqTEdge]
  by_cases h0 : a.from_ = b.from_ <;> by_cases h1 : a.to_ = b.to_ <;> by_cases h2 : a.stmt.kind = b.stmt.kind <;> cases h3 : (a.stmt.a == b.stmt.a) <;> cases h4 : (a.stmt.b == b.stmt.b) <;> simp_all
theorem ne_134 (x y : Operand) (a b : TEdge) : binAV Try.prog .neq 134 x y (av .shr a) (av .shr b) = some (.bool (neTEdge a b)) := by
  refine bin_neqAg Try.underlying134 (by kernel_rfl) (by kernel_rfl) rfl rfl (b := eqTEdge a b) ?_
  simp [eqFs, pureOf_bind, pureOf_part ti_3, pureOf_part ti_9, pureOf_part ti_132, eqIn_int Try.underlying3, eqIn_string Try.underlying9, pureOf_struct Try.underlying132 (show Try.prog.stoodInHeld 132 = false by kernel_rfl), eqTStmt, eqTEdge]
  by_cases h0 : a.from_ = b.from_ <;> by_cases h1 : a.to_ = b.to_ <;> by_cases h2 : a.stmt.kind = b.stmt.kind <;> cases h3 : (a.stmt.a == b.stmt.a) <;> cases h4 : (a.stmt.b == b.stmt.b) <;> simp_all
end Go.Proofs
