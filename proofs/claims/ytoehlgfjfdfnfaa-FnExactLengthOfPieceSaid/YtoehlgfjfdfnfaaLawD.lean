/-
  The walks of the laws on pieces: the time of a beat.
-/
import Derived.Test.YtoehlgfjfdfnfaaTmE
namespace Go.Proofs.Ytoehlgfjfdfnfaa
open Go.RowKit
set_option linter.unusedVariables false

theorem timeOfBeat_walk (A0 : Option Addr) (n0 c0 : Nat) (x0 : List (Int × Int × Int)) (a1 : Int) (w : World) (_N0 : n0 ≤ maxLen) (S0 : Sl w 3 e3 A0 n0 x0) (_B0 : ∀ x ∈ x0, In64 x.1 ∧ In64 x.2.1 ∧ In64 x.2.2) (b_1 : In64 a1) :
    Calls Try.prog 5 #[.slice A0 n0 c0, .int .i64 a1] w fun e w' => e = .returned (.bool true) ∧ Below w.heap.size w w' := by
  by_cases hl0 : (n0 : Int) ≤ 1048576
  · go_enter Try.func5, Try.ntmps5
    go_wp2_with fail
    refine (szPartS_yes A0 n0 c0 (1048576) _ (by omega) (by omega) hl0).mono ?_
    rintro e w' ⟨rfl, rfl⟩
    go_wp2_with fail
    refine (toPartS_any A0 n0 c0 x0 _ (S0.below (Below.refl w.heap.size w)) (by omega)).mono ?_
    rintro e w1 ⟨rfl, s0x, b1⟩
    have B1 := below_step (Below.refl w.heap.size w) b1
    go_wp2_with fail
    refine (specTimeOfBeat_any _ n0 n0 x0 a1 _ (s0x.sl e3_len) (by omega) b_1).mono ?_
    rintro e w2 ⟨rfl, b2⟩
    have B2 := below_step B1 b2
    go_wp2_with fail
    have bx : Own (w2.alloc (.cells #[.int .i64 (tbVal x0 a1).1, .int .i64 (tbVal x0 a1).2] 31)) w2.heap.size 31 2 e2 (.slice (some ⟨w2.heap.size, 0, none⟩) 1 1) [tbVal x0 a1] := Own.lit w2 _ _ [tbVal x0 a1] 1 (Nat.le_refl _) rfl (by simp [maxLen]) e2_len rfl
    have b3 := below_alloc w2 (.cells #[.int .i64 (tbVal x0 a1).1, .int .i64 (tbVal x0 a1).2] 31)
    have B3 := below_step B2 b3
    generalize w2.alloc (.cells #[.int .i64 (tbVal x0 a1).1, .int .i64 (tbVal x0 a1).2] 31) = w3 at bx b3 B3 ⊢
    refine (toPartS_any A0 n0 c0 x0 _ (S0.below B3) (by omega)).mono ?_
    rintro e w4 ⟨rfl, y0, b4⟩
    have B4 := below_step B3 b4
    have bx_4 := bx.below b4
    go_wp2_with fail
    refine (implTimeOfBeat_any _ n0 n0 x0 a1 _ (y0.sl e3_len) (by omega) b_1).mono ?_
    rintro e w5 ⟨rfl, b5⟩
    have B5 := below_step B4 b5
    have bx_5 := bx_4.below b5
    have y0_5 := y0.below b5
    have kx := (bx_5.sl e2_len).get2 (i := 0) rfl
    have kx0 := cell_al (show w5.cell? ⟨w2.heap.size, 0, none⟩ = some (.int .i64 (tbVal x0 a1).1) from kx.1)
    have kx1 := cell_al (show w5.cell? ⟨w2.heap.size, 1, none⟩ = some (.int .i64 (tbVal x0 a1).2) from kx.2)
    clear kx
    go_wp2_with fail
    refine (eqFraction_any (tbVal x0 a1) (tbVal x0 a1) _).mono ?_
    rintro e w6 ⟨rfl, bb⟩
    have b6 := below_step (below_alloc _ _) bb
    have B6 := below_step B5 b6
    have y0_6 := y0_5.below b6
    go_wp2_with fail
    refine (toPartS_any A0 n0 c0 x0 _ (S0.below B6) (by omega)).mono ?_
    rintro e w7 ⟨rfl, t0, b7⟩
    have B7 := below_step B6 b7
    have y0_7 := y0_6.below b7
    go_wp2_with fail
    refine (eqPartS_any _ n0 n0 x0 _ n0 n0 x0 _ (y0_7.sl e3_len) (by omega) (t0.sl e3_len) (by omega)).mono ?_
    rintro e w8 ⟨rfl, b8⟩
    have B8 := below_step B7 b8
    have y0_8 := y0_7.below b8
    go_wp2_with fail
    go_ret
    exact ⟨rfl, B8⟩
  · go_enter Try.func5, Try.ntmps5
    go_wp2_with fail
    refine (szPartS_no A0 n0 c0 (1048576) _ (by omega) (by omega) (by omega) _N0).mono ?_
    rintro e w' ⟨rfl, rfl⟩
    go_wp2_with fail
    go_ret
    exact ⟨rfl, Below.refl _ _⟩

theorem lengthOfPiece_walk (A0 : Option Addr) (n0 c0 : Nat) (x0 : List (Int × Int × Int)) (w : World) (_N0 : n0 ≤ maxLen) (S0 : Sl w 3 e3 A0 n0 x0) (_B0 : ∀ x ∈ x0, In64 x.1 ∧ In64 x.2.1 ∧ In64 x.2.2) :
    Calls Try.prog 4 #[.slice A0 n0 c0] w fun e w' => e = .returned (.bool true) ∧ Below w.heap.size w w' := by
  by_cases hl0 : (n0 : Int) ≤ 1048576
  · go_enter Try.func4, Try.ntmps4
    go_wp2_with fail
    refine (szPartS_yes A0 n0 c0 (1048576) _ (by omega) (by omega) hl0).mono ?_
    rintro e w' ⟨rfl, rfl⟩
    go_wp2_with fail
    refine (toPartS_any A0 n0 c0 x0 _ (S0.below (Below.refl w.heap.size w)) (by omega)).mono ?_
    rintro e w1 ⟨rfl, s0x, b1⟩
    have B1 := below_step (Below.refl w.heap.size w) b1
    go_wp2_with fail
    refine (specLengthOfPiece_any _ n0 n0 x0 _ (s0x.sl e3_len) (by omega)).mono ?_
    rintro e w2 ⟨rfl, b2⟩
    have B2 := below_step B1 b2
    go_wp2_with fail
    have bx : Own (w2.alloc (.cells #[.int .i64 (lpVal x0).1, .int .i64 (lpVal x0).2] 31)) w2.heap.size 31 2 e2 (.slice (some ⟨w2.heap.size, 0, none⟩) 1 1) [lpVal x0] := Own.lit w2 _ _ [lpVal x0] 1 (Nat.le_refl _) rfl (by simp [maxLen]) e2_len rfl
    have b3 := below_alloc w2 (.cells #[.int .i64 (lpVal x0).1, .int .i64 (lpVal x0).2] 31)
    have B3 := below_step B2 b3
    generalize w2.alloc (.cells #[.int .i64 (lpVal x0).1, .int .i64 (lpVal x0).2] 31) = w3 at bx b3 B3 ⊢
    refine (toPartS_any A0 n0 c0 x0 _ (S0.below B3) (by omega)).mono ?_
    rintro e w4 ⟨rfl, y0, b4⟩
    have B4 := below_step B3 b4
    have bx_4 := bx.below b4
    go_wp2_with fail
    refine (implLengthOfPiece_any _ n0 n0 x0 _ (y0.sl e3_len) (by omega)).mono ?_
    rintro e w5 ⟨rfl, b5⟩
    have B5 := below_step B4 b5
    have bx_5 := bx_4.below b5
    have y0_5 := y0.below b5
    have kx := (bx_5.sl e2_len).get2 (i := 0) rfl
    have kx0 := cell_al (show w5.cell? ⟨w2.heap.size, 0, none⟩ = some (.int .i64 (lpVal x0).1) from kx.1)
    have kx1 := cell_al (show w5.cell? ⟨w2.heap.size, 1, none⟩ = some (.int .i64 (lpVal x0).2) from kx.2)
    clear kx
    go_wp2_with fail
    refine (eqFraction_any (lpVal x0) (lpVal x0) _).mono ?_
    rintro e w6 ⟨rfl, bb⟩
    have b6 := below_step (below_alloc _ _) bb
    have B6 := below_step B5 b6
    have y0_6 := y0_5.below b6
    go_wp2_with fail
    refine (toPartS_any A0 n0 c0 x0 _ (S0.below B6) (by omega)).mono ?_
    rintro e w7 ⟨rfl, t0, b7⟩
    have B7 := below_step B6 b7
    have y0_7 := y0_6.below b7
    go_wp2_with fail
    refine (eqPartS_any _ n0 n0 x0 _ n0 n0 x0 _ (y0_7.sl e3_len) (by omega) (t0.sl e3_len) (by omega)).mono ?_
    rintro e w8 ⟨rfl, b8⟩
    have B8 := below_step B7 b8
    have y0_8 := y0_7.below b8
    go_wp2_with fail
    go_ret
    exact ⟨rfl, B8⟩
  · go_enter Try.func4, Try.ntmps4
    go_wp2_with fail
    refine (szPartS_no A0 n0 c0 (1048576) _ (by omega) (by omega) (by omega) _N0).mono ?_
    rintro e w' ⟨rfl, rfl⟩
    go_wp2_with fail
    go_ret
    exact ⟨rfl, Below.refl _ _⟩
end Go.Proofs.Ytoehlgfjfdfnfaa
