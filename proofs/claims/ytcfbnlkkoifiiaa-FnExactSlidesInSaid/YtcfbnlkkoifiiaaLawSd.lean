/-
  The walk of the law on the different slides of a showing.
-/
import Derived.Test.YtcfbnlkkoifiiaaQsJ
namespace Go.Proofs.Ytcfbnlkkoifiiaa
open Go.RowKit
set_option linter.unusedVariables false

theorem slidesIn_walk (s0 : ByteArray) (w : World) (_b0 : s0.size ≤ maxLen) :
    Calls Try.prog 4 #[.string s0] w fun e w' => e = .returned (.bool true) ∧ Below w.heap.size w w' := by
  by_cases hl0 : (s0.size : Int) ≤ 1048576
  · go_enter Try.func4, Try.ntmps4
    go_wp2_with fail
    refine (specSlidesIn_any s0 _ (by omega)).mono ?_
    rintro e w1 ⟨rfl, b1⟩
    have B1 := below_step (Below.refl w.heap.size w) b1
    go_wp2_with fail
    refine (implSlidesIn_any s0 _ (by omega)).mono ?_
    rintro e w2 ⟨rfl, b2⟩
    have B2 := below_step B1 b2
    go_wp2_with fail
    go_ret
    exact ⟨rfl, B2⟩
  · go_enter Try.func4, Try.ntmps4
    go_wp2_with fail
    go_ret
    exact ⟨rfl, Below.refl _ _⟩
end Go.Proofs.Ytcfbnlkkoifiiaa
