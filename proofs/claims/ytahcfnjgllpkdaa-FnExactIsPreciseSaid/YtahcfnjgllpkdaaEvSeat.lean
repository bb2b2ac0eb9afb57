import Derived.Test.YtahcfnjgllpkdaaEvP
import Derived.Test.YtahcfnjgllpkdaaProg
import Derived.KernelRfl
set_option linter.unusedSimpArgs false
set_option linter.unusedVariables false
set_option linter.unnecessarySimpa false
namespace Go.Proofs
open Go.Ev
@[simp] theorem ti_3 : ti Try.prog 3 = some { size := 1, bytes := 8, agg := false, elem := none, flds := [], zero := [.int .i64 0] } := by kernel_rfl
@[simp] theorem ti_4 : ti Try.prog 4 = some { size := 1, bytes := 1, agg := false, elem := none, flds := [], zero := [.bool false] } := by kernel_rfl
attribute [simp] Try.underlying4
@[simp] theorem ti_22 : ti Try.prog 22 = some { size := 1, bytes := 24, agg := false, elem := some 72, flds := [], zero := [.slice none 0 0] } := by kernel_rfl
@[simp] theorem ti_43 : ti Try.prog 43 = some { size := 1, bytes := 24, agg := false, elem := some 141, flds := [], zero := [.slice none 0 0] } := by kernel_rfl
@[simp] theorem ti_44 : ti Try.prog 44 = some { size := 1, bytes := 24, agg := false, elem := some 3, flds := [], zero := [.slice none 0 0] } := by kernel_rfl
@[simp] theorem ti_46 : ti Try.prog 46 = some { size := 2, bytes := 48, agg := true, elem := none, flds := [(0, 43), (1, 44)], zero := [.slice none 0 0, .slice none 0 0] } := by kernel_rfl
@[simp] theorem ti_48 : ti Try.prog 48 = some { size := 1, bytes := 24, agg := false, elem := some 52, flds := [], zero := [.slice none 0 0] } := by kernel_rfl
@[simp] theorem ti_50 : ti Try.prog 50 = some { size := 1, bytes := 24, agg := false, elem := some 104, flds := [], zero := [.slice none 0 0] } := by kernel_rfl
@[simp] theorem ti_52 : ti Try.prog 52 = some { size := 2, bytes := 48, agg := true, elem := none, flds := [(0, 50), (1, 44)], zero := [.slice none 0 0, .slice none 0 0] } := by kernel_rfl
@[simp] theorem ti_61 : ti Try.prog 61 = some { size := 1, bytes := 24, agg := false, elem := some 46, flds := [], zero := [.slice none 0 0] } := by kernel_rfl
@[simp] theorem ti_72 : ti Try.prog 72 = some { size := 2, bytes := 48, agg := true, elem := none, flds := [(0, 44), (1, 44)], zero := [.slice none 0 0, .slice none 0 0] } := by kernel_rfl
@[simp] theorem ti_78 : ti Try.prog 78 = some { size := 1, bytes := 24, agg := false, elem := some 44, flds := [], zero := [.slice none 0 0] } := by kernel_rfl
@[simp] theorem ti_104 : ti Try.prog 104 = some { size := 4, bytes := 64, agg := true, elem := none, flds := [(0, 44), (1, 44), (2, 3), (3, 3)], zero := [.slice none 0 0, .slice none 0 0, .int .i64 0, .int .i64 0] } := by kernel_rfl
@[simp] theorem ti_141 : ti Try.prog 141 = some { size := 4, bytes := 64, agg := true, elem := none, flds := [(0, 44), (1, 44), (2, 3), (3, 3)], zero := [.slice none 0 0, .slice none 0 0, .int .i64 0, .int .i64 0] } := by kernel_rfl
@[simp] theorem ti_183 : ti Try.prog 183 = some { size := 1, bytes := 8, agg := false, elem := none, flds := [], zero := [.nilFunc] } := by kernel_rfl
end Go.Proofs
