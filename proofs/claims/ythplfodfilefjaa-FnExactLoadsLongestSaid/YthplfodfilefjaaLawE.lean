/-
  The walk of the law on the one not shown for longest.
-/
import Derived.Test.YthplfodfilefjaaLoX
namespace Go.Proofs.Ythplfodfilefjaa
open Go.RowKit
set_option linter.unusedVariables false

theorem loadsLongest_walk (s0 : ByteArray) (a1 : Int) (w : World) (_b0 : s0.size ≤ maxLen) (b_1 : In64 a1) :
    Calls Try.prog 3 #[.string s0, .int .i64 a1] w fun e w' => e = .returned (.bool true) ∧ Below w.heap.size w w' := by
  by_cases hl0 : (s0.size : Int) ≤ 1048576
  · go_enter Try.func3, Try.ntmps3
    go_wp2_with fail
    refine (specLoadsLongest_any s0 a1 _ (by omega) b_1).mono ?_
    rintro e w1 ⟨rfl, b1⟩
    have B1 := below_step (Below.refl w.heap.size w) b1
    go_wp2_with fail
    refine (implLoadsLongest_any s0 a1 _ (by omega) b_1).mono ?_
    rintro e w2 ⟨rfl, b2⟩
    have B2 := below_step B1 b2
    go_wp2_with fail
    go_ret
    exact ⟨rfl, B2⟩
  · go_enter Try.func3, Try.ntmps3
    go_wp2_with fail
    go_ret
    exact ⟨rfl, Below.refl _ _⟩
end Go.Proofs.Ythplfodfilefjaa
