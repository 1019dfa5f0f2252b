/-
  The kit's contracts for three functions of slices, laid at this program (printed by a program of ours off the structures' fields).
-/
import Derived.Test.YtfckggkmiegokaaConfC
import Derived.Shelf.Slices.SearchI
import Derived.Shelf.Slices.Delete
import Derived.Shelf.Spec.SlicesInsert
import Derived.Shelf.Spec.SlicesInsertGrow
set_option linter.unusedSimpArgs false
set_option linter.unusedVariables false
namespace Go.Proofs.Ytfckggkmiegokaa
open Go.Shelf Go.Lib Go.Sort Go.RowKit
def laysSearch_ren : Go.Shelf.Ren := ⟨fun | 25 => 55 | 31 => 59 | 32 => 60 | 37 => 63 | n => n, fun | 22 => 35 | 3 => 3 | 4 => 4 | 40 => 81 | 0 => 0 | n => n, fun n => n⟩
theorem laysSearch : Lays2.n25 Try.prog laysSearch_ren where
  mixed := by kernel_rfl
  f25 := Try.func55.trans (congrArg some (by kernel_rfl))
  f31 := Try.func59.trans (congrArg some (by kernel_rfl))
  f32 := Try.func60.trans (congrArg some (by kernel_rfl))
  f37 := Try.func63.trans (congrArg some (by kernel_rfl))
  t0 := Try.underlying0
  a0 := Try.isAgg0
  z0 := Try.sizeOf0
  v0 := Try.zeroValue0
  t3 := Try.underlying3
  a3 := Try.isAgg3
  z3 := Try.sizeOf3
  v3 := Try.zeroValue3
  t4 := Try.underlying4
  a4 := Try.isAgg4
  z4 := Try.sizeOf4
  v4 := Try.zeroValue4
  t22 := Try.underlying35
  a22 := Try.isAgg35
  z22 := Try.sizeOf35
  v22 := Try.zeroValue35
  t40 := Try.underlying81
  a40 := Try.isAgg81
  z40 := Try.sizeOf81
  v40 := Try.zeroValue81
def laysDelete_ren : Go.Shelf.Ren := ⟨fun | 23 => 57 | n => n, fun | 22 => 35 | 3 => 3 | 4 => 4 | 0 => 0 | n => n, fun n => n⟩
theorem laysDelete : Lays2.n23 Try.prog laysDelete_ren where
  mixed := by kernel_rfl
  f23 := Try.func57.trans (congrArg some (by kernel_rfl))
  t0 := Try.underlying0
  a0 := Try.isAgg0
  z0 := Try.sizeOf0
  v0 := Try.zeroValue0
  t3 := Try.underlying3
  a3 := Try.isAgg3
  z3 := Try.sizeOf3
  v3 := Try.zeroValue3
  t4 := Try.underlying4
  a4 := Try.isAgg4
  z4 := Try.sizeOf4
  v4 := Try.zeroValue4
  t22 := Try.underlying35
  a22 := Try.isAgg35
  z22 := Try.sizeOf35
  v22 := Try.zeroValue35
  i3 := by kernel_rfl
def laysInsert_ren : Go.Shelf.Ren := ⟨fun | 21 => 56 | 27 => 61 | 28 => 62 | 35 => 64 | 39 => 65 | n => n, fun | 22 => 35 | 3 => 3 | 4 => 4 | 0 => 0 | n => n, fun n => n⟩
theorem laysInsert : Lays2.n21 Try.prog laysInsert_ren where
  mixed := by kernel_rfl
  f21 := Try.func56.trans (congrArg some (by kernel_rfl))
  f27 := Try.func61.trans (congrArg some (by kernel_rfl))
  f28 := Try.func62.trans (congrArg some (by kernel_rfl))
  f35 := Try.func64.trans (congrArg some (by kernel_rfl))
  f39 := Try.func65.trans (congrArg some (by kernel_rfl))
  t0 := Try.underlying0
  a0 := Try.isAgg0
  z0 := Try.sizeOf0
  v0 := Try.zeroValue0
  t3 := Try.underlying3
  a3 := Try.isAgg3
  z3 := Try.sizeOf3
  v3 := Try.zeroValue3
  t4 := Try.underlying4
  a4 := Try.isAgg4
  z4 := Try.sizeOf4
  v4 := Try.zeroValue4
  t22 := Try.underlying35
  a22 := Try.isAgg35
  z22 := Try.sizeOf35
  v22 := Try.zeroValue35
  i3 := by kernel_rfl
end Go.Proofs.Ytfckggkmiegokaa
