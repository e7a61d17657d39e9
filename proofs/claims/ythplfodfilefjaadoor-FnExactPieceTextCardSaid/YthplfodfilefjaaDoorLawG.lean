/-
  The walk of the law on a piece as text.
-/
import Derived.Test.YthplfodfilefjaaDoorPt
namespace Go.Proofs.YthplfodfilefjaaDoor
set_option maxRecDepth 100000
open Go.RowKit
set_option linter.unusedVariables false

theorem pieceText_walk (A0 : Option Addr) (n0 c0 : Nat) (x0 : List (Int × Int × Int)) (w : World) (_N0 : n0 ≤ maxLen) (S0 : Sl w 3 e3 A0 n0 x0) (_B0 : ∀ x ∈ x0, In64 x.1 ∧ In64 x.2.1 ∧ In64 x.2.2) (hT : Tab w) :
    Calls Tryd.prog 5 #[.slice A0 n0 c0] w fun e w' => e = .returned (.bool true) ∧ Below w.heap.size w w' := by
  have hne : ((pcText x0).toList != (pcText x0).toList) = false := by simp
  by_cases hl0 : (n0 : Int) ≤ 1048576
  · go_enter Tryd.func5, Tryd.ntmps5
    go_wp2_with fail
    refine (szPartS_yes A0 n0 c0 (1048576) _ (by omega) (by omega) hl0).mono ?_
    rintro e w' ⟨rfl, rfl⟩
    go_wp2_with fail
    refine (toPartS_any A0 n0 c0 x0 _ (S0.below (Below.refl w.heap.size w)) (by omega)).mono ?_
    rintro e w1 ⟨rfl, s0x, b1⟩
    have B1 := below_step (Below.refl w.heap.size w) b1
    go_wp2_with fail
    refine (specPieceText_any _ n0 n0 x0 _ (s0x.sl e3_len) (by omega)).mono ?_
    rintro e w2 ⟨rfl, b2⟩
    have B2 := below_step B1 b2
    go_wp2_with fail
    refine (toPartS_any A0 n0 c0 x0 _ (S0.below B2) (by omega)).mono ?_
    rintro e w3 ⟨rfl, y0, b3⟩
    have B3 := below_step B2 b3
    go_wp2_with fail
    refine (implPieceText_any _ n0 n0 x0 _ (y0.sl e3_len) (by omega) (hT.below B3)).mono ?_
    rintro e w4 ⟨rfl, b4⟩
    have B4 := below_step B3 b4
    have y0_4 := y0.below b4
    go_wp2_with fail
    refine (toPartS_any A0 n0 c0 x0 _ (S0.below B4) (by omega)).mono ?_
    rintro e w5 ⟨rfl, t0, b5⟩
    have B5 := below_step B4 b5
    have y0_5 := y0_4.below b5
    go_wp2_with fail
    refine (eqPartS_any _ n0 n0 x0 _ n0 n0 x0 _ (y0_5.sl e3_len) (by omega) (t0.sl e3_len) (by omega)).mono ?_
    rintro e w6 ⟨rfl, b6⟩
    have B6 := below_step B5 b6
    have y0_6 := y0_5.below b6
    go_wp2_with fail
    go_ret
    exact ⟨rfl, B6⟩
  · go_enter Tryd.func5, Tryd.ntmps5
    go_wp2_with fail
    refine (szPartS_no A0 n0 c0 (1048576) _ (by omega) (by omega) (by omega) _N0).mono ?_
    rintro e w' ⟨rfl, rfl⟩
    go_wp2_with fail
    go_ret
    exact ⟨rfl, Below.refl _ _⟩
end Go.Proofs.YthplfodfilefjaaDoor
