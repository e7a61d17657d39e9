/-
  A contract of the library laid at this program: a table of numbers and the facts that it fits. No condition.
-/
import Derived.Shelf.SlSortCmp.Insertion
import Derived.Ground.SlsfProg
import Derived.Test.YtcfbnlkkoifiiaaChecked
namespace Go.Proofs
open Go.Shelf
def Try.laidIns_ren : Go.Shelf.Ren := ⟨fun | 20 => 41 | n => n, fun | 24 => 3 | 22 => 43 | 3 => 3 | 25 => 45 | 4 => 4 | 0 => 0 | n => n, fun | n => n⟩
theorem Try.laidIns : Go.Proofs.SlLaysF.n20 Try.prog Try.laidIns_ren := {
  mixed := by kernel_rfl
  f20 := ⟨Try.f41.name, by decide, Try.func41.trans (congrArg some (by kernel_rfl))⟩
  t0 := Try.underlying0
  a0 := Try.isAgg0
  z0 := Try.sizeOf0
  v0 := Try.zeroValue0
  t3 := Try.underlying3
  a3 := Try.isAgg3
  z3 := Try.sizeOf3
  v3 := Try.zeroValue3
  t4 := Try.underlying4
  a4 := Try.isAgg4
  z4 := Try.sizeOf4
  v4 := Try.zeroValue4
  t22 := Try.underlying43
  a22 := Try.isAgg43
  z22 := Try.sizeOf43
  v22 := Try.zeroValue43
  a24 := Try.isAgg3
  z24 := Try.sizeOf3
  t25 := Try.underlying45
  a25 := Try.isAgg45
  z25 := Try.sizeOf45
  v25 := Try.zeroValue45 }
end Go.Proofs
