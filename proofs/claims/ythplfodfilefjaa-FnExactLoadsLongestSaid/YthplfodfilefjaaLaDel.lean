/-
  A contract of the library laid at this program: a table of numbers and the facts that it fits. No condition.
-/
import Derived.Shelf.SlicesE.Delete
import Derived.Ground.SlgnProg
import Derived.Test.YthplfodfilefjaaChecked
namespace Go.Proofs
open Go.Shelf
def Try.laidDelete_ren : Go.Shelf.Ren := ⟨fun | 45 => 15 | n => n, fun | 22 => 29 | 23 => 5 | 3 => 3 | 4 => 4 | 0 => 0 | n => n, fun | n => n⟩
theorem Try.laidDelete : Go.Proofs.SlLaysE.n45 Try.prog Try.laidDelete_ren := {
  mixed := by kernel_rfl
  f45 := ⟨Try.f15.name, by decide, Try.func15.trans (congrArg some (by kernel_rfl))⟩
  t0 := Try.underlying0
  a0 := Try.isAgg0
  z0 := Try.sizeOf0
  v0 := Try.zeroValue0
  t3 := Try.underlying3
  a3 := Try.isAgg3
  z3 := Try.sizeOf3
  v3 := Try.zeroValue3
  t4 := Try.underlying4
  a4 := Try.isAgg4
  z4 := Try.sizeOf4
  v4 := Try.zeroValue4
  t22 := Try.underlying29
  a22 := Try.isAgg29
  z22 := Try.sizeOf29
  v22 := Try.zeroValue29
  a23 := Try.isAgg5
  z23 := Try.sizeOf5 }
end Go.Proofs
