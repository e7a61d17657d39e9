/-
  The walks of the laws on showings: the loads of a plan.
-/
import Derived.Test.YtodfomglhlamoaaLdD
namespace Go.Proofs.Ytodfomglhlamoaa
open Go.RowKit
set_option linter.unusedVariables false

theorem loadsOf_walk (s0 : ByteArray) (a1 : Int) (A2 : Option Addr) (n2 c2 : Nat) (x2 : List Int) (w : World) (_b0 : s0.size ≤ maxLen) (b_1 : In64 a1) (_N2 : n2 ≤ maxLen) (S2 : Sl w 1 e1 A2 n2 x2) (_B2 : ∀ x ∈ x2, In64 x) :
    Calls Try.prog 5 #[.string s0, .int .i64 a1, .slice A2 n2 c2] w fun e w' => e = .returned (.bool true) ∧ Below w.heap.size w w' := by
  by_cases hl0 : (s0.size : Int) ≤ 1048576
  · by_cases hl2 : (n2 : Int) ≤ 1048576
    · go_enter Try.func5, Try.ntmps5
      go_wp2_with fail
      refine (toInt64S_any A2 n2 c2 x2 _ (S2.below (Below.refl w.heap.size w)) (by omega)).mono ?_
      rintro e w1 ⟨rfl, s2x, b1⟩
      have B1 := below_step (Below.refl w.heap.size w) b1
      go_wp2_with fail
      refine (specLoadsOf_any s0 a1 _ n2 n2 x2 _ (by omega) b_1 (s2x.sl e1_len) (by omega)).mono ?_
      rintro e w2 ⟨rfl, b2⟩
      have B2 := below_step B1 b2
      go_wp2_with fail
      refine (toInt64S_any A2 n2 c2 x2 _ (S2.below B2) (by omega)).mono ?_
      rintro e w3 ⟨rfl, y2, b3⟩
      have B3 := below_step B2 b3
      go_wp2_with fail
      refine (implLoadsOf_any s0 a1 _ n2 n2 x2 _ (by omega) b_1 (y2.sl e1_len) (by omega)).mono ?_
      rintro e w4 ⟨rfl, b4⟩
      have B4 := below_step B3 b4
      have y2_4 := y2.below b4
      go_wp2_with fail
      refine (toInt64S_any A2 n2 c2 x2 _ (S2.below B4) (by omega)).mono ?_
      rintro e w5 ⟨rfl, t2, b5⟩
      have B5 := below_step B4 b5
      have y2_5 := y2_4.below b5
      go_wp2_with fail
      refine (eqInt64S_any _ n2 n2 x2 _ n2 n2 x2 _ (y2_5.sl e1_len) (by omega) (t2.sl e1_len) (by omega)).mono ?_
      rintro e w6 ⟨rfl, b6⟩
      have B6 := below_step B5 b6
      have y2_6 := y2_5.below b6
      go_wp2_with fail
      go_ret
      exact ⟨rfl, B6⟩
    · go_enter Try.func5, Try.ntmps5
      go_wp2_with fail
      go_ret
      exact ⟨rfl, Below.refl _ _⟩
  · go_enter Try.func5, Try.ntmps5
    go_wp2_with fail
    go_ret
    exact ⟨rfl, Below.refl _ _⟩
end Go.Proofs.Ytodfomglhlamoaa
