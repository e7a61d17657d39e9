/-
  The walk of the law on wheels.
-/
import Derived.Test.YtbpbfndfjahmlaaWhC
import Derived.Test.YtbpbfndfjahmlaaOpen
namespace Go.Proofs.Ytbpbfndfjahmlaa
open Go.RowKit
set_option linter.unusedVariables false

theorem firstTogether_walk (a0 : Int) (A1 : Option Addr) (n1 c1 : Nat) (x1 : List (Int × Bool)) (A2 : Option Addr) (n2 c2 : Nat) (x2 : List Int) (w : World) (b_0 : In64 a0) (_N1 : n1 ≤ maxLen) (S1 : Sl w 2 eWheel A1 n1 x1) (_B1 : ∀ x ∈ x1, In64 x.1) (_N2 : n2 ≤ maxLen) (S2 : Sl w 1 e1 A2 n2 x2) (_B2 : ∀ x ∈ x2, In64 x) :
    Calls Try.prog 3 #[.int .i64 a0, .slice A1 n1 c1, .slice A2 n2 c2] w fun e w' => e = .returned (.bool true) ∧ Below w.heap.size w w' := by
  by_cases hl2 : (n2 : Int) ≤ 1048576
  · by_cases hl1 : (n1 : Int) ≤ 1048576
    · go_enter Try.func3, Try.ntmps3
      go_wp2_with fail
      refine (szWheelS_yes A1 n1 c1 (1048576) _ (by omega) (by omega) hl1).mono ?_
      rintro e w' ⟨rfl, rfl⟩
      go_wp2_with fail
      refine (toWheelS_any A1 n1 c1 x1 _ (S1.below (Below.refl w.heap.size w)) (by omega)).mono ?_
      rintro e w1 ⟨rfl, s1x, b1⟩
      have B1 := below_step (Below.refl w.heap.size w) b1
      go_wp2_with fail
      refine (toInt64S_any A2 n2 c2 x2 _ (S2.below B1) (by omega)).mono ?_
      rintro e w2 ⟨rfl, s2x, b2⟩
      have B2 := below_step B1 b2
      have s1x_2 := s1x.below b2
      go_wp2_with fail
      refine (specFirstTogether_any a0 _ n1 n1 x1 _ n2 n2 x2 _ b_0 (s1x_2.sl eWheel_len) (by omega) (s2x.sl e1_len) (by omega)).mono ?_
      rintro e w3 ⟨rfl, b3⟩
      have B3 := below_step B2 b3
      go_wp2_with fail
      refine (toWheelS_any A1 n1 c1 x1 _ (S1.below B3) (by omega)).mono ?_
      rintro e w4 ⟨rfl, y1, b4⟩
      have B4 := below_step B3 b4
      go_wp2_with fail
      refine (toInt64S_any A2 n2 c2 x2 _ (S2.below B4) (by omega)).mono ?_
      rintro e w5 ⟨rfl, y2, b5⟩
      have B5 := below_step B4 b5
      have y1_5 := y1.below b5
      go_wp2_with fail
      refine (implFirstTogether_any a0 _ n1 n1 x1 _ n2 n2 x2 _ b_0 (y1_5.sl eWheel_len) (by omega) (y2.sl e1_len) (by omega)).mono ?_
      rintro e w6 ⟨rfl, b6⟩
      have B6 := below_step B5 b6
      have y1_6 := y1_5.below b6
      have y2_6 := y2.below b6
      go_wp2_with fail
      refine (toWheelS_any A1 n1 c1 x1 _ (S1.below B6) (by omega)).mono ?_
      rintro e w7 ⟨rfl, t1, b7⟩
      have B7 := below_step B6 b7
      have y1_7 := y1_6.below b7
      have y2_7 := y2_6.below b7
      go_wp2_with fail
      refine (eqWheelS_any _ n1 n1 x1 _ n1 n1 x1 _ (y1_7.sl eWheel_len) (by omega) (t1.sl eWheel_len) (by omega)).mono ?_
      rintro e w8 ⟨rfl, b8⟩
      have B8 := below_step B7 b8
      have y1_8 := y1_7.below b8
      have y2_8 := y2_7.below b8
      go_wp2_with fail
      refine (toInt64S_any A2 n2 c2 x2 _ (S2.below B8) (by omega)).mono ?_
      rintro e w9 ⟨rfl, t2, b9⟩
      have B9 := below_step B8 b9
      have y1_9 := y1_8.below b9
      have y2_9 := y2_8.below b9
      go_wp2_with fail
      refine (eqInt64S_any _ n2 n2 x2 _ n2 n2 x2 _ (y2_9.sl e1_len) (by omega) (t2.sl e1_len) (by omega)).mono ?_
      rintro e w10 ⟨rfl, b10⟩
      have B10 := below_step B9 b10
      have y1_10 := y1_9.below b10
      have y2_10 := y2_9.below b10
      go_wp2_with fail
      go_ret
      exact ⟨rfl, B10⟩
    · go_enter Try.func3, Try.ntmps3
      go_wp2_with fail
      refine (szWheelS_no A1 n1 c1 (1048576) _ (by omega) (by omega) (by omega) _N1).mono ?_
      rintro e w' ⟨rfl, rfl⟩
      go_wp2_with fail
      go_ret
      exact ⟨rfl, Below.refl _ _⟩
  · go_enter Try.func3, Try.ntmps3
    go_wp2_with fail
    go_ret
    exact ⟨rfl, Below.refl _ _⟩
end Go.Proofs.Ytbpbfndfjahmlaa
