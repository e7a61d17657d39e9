/-
  The walks of the laws on frames.
-/
import Derived.Test.YtkjdinhbfoghnaaFrG
namespace Go.Proofs.Ytkjdinhbfoghnaa
open Go.RowKit
set_option linter.unusedVariables false

theorem validFrames_walk (A0 : Option Addr) (n0 c0 : Nat) (x0 : List (Int × Int)) (w : World) (_N0 : n0 ≤ maxLen) (S0 : Sl w 2 e2 A0 n0 x0) (_B0 : ∀ x ∈ x0, In64 x.1 ∧ In64 x.2) :
    Calls Try.prog 4 #[.slice A0 n0 c0] w fun e w' => e = .returned (.bool true) ∧ Below w.heap.size w w' := by
  by_cases hl0 : (n0 : Int) ≤ 1048576
  · go_enter Try.func4, Try.ntmps4
    go_wp2_with fail
    refine (szFrameS_yes A0 n0 c0 (1048576) _ (by omega) (by omega) hl0).mono ?_
    rintro e w' ⟨rfl, rfl⟩
    go_wp2_with fail
    refine (toFrameS_any A0 n0 c0 x0 _ (S0.below (Below.refl w.heap.size w)) (by omega)).mono ?_
    rintro e w1 ⟨rfl, s0x, b1⟩
    have B1 := below_step (Below.refl w.heap.size w) b1
    go_wp2_with fail
    refine (specValidFrames_any _ n0 n0 x0 _ (s0x.sl e2_len) (by omega)).mono ?_
    rintro e w2 ⟨rfl, b2⟩
    have B2 := below_step B1 b2
    go_wp2_with fail
    refine (toFrameS_any A0 n0 c0 x0 _ (S0.below B2) (by omega)).mono ?_
    rintro e w3 ⟨rfl, y0, b3⟩
    have B3 := below_step B2 b3
    go_wp2_with fail
    refine (implValidFrames_any _ n0 n0 x0 _ (y0.sl e2_len) (by omega)).mono ?_
    rintro e w4 ⟨rfl, b4⟩
    have B4 := below_step B3 b4
    have y0_4 := y0.below b4
    go_wp2_with fail
    refine (toFrameS_any A0 n0 c0 x0 _ (S0.below B4) (by omega)).mono ?_
    rintro e w5 ⟨rfl, t0, b5⟩
    have B5 := below_step B4 b5
    have y0_5 := y0_4.below b5
    go_wp2_with fail
    refine (eqFrameS_any _ n0 n0 x0 _ n0 n0 x0 _ (y0_5.sl e2_len) (by omega) (t0.sl e2_len) (by omega)).mono ?_
    rintro e w6 ⟨rfl, b6⟩
    have B6 := below_step B5 b6
    have y0_6 := y0_5.below b6
    go_wp2_with fail
    go_ret
    exact ⟨rfl, B6⟩
  · go_enter Try.func4, Try.ntmps4
    go_wp2_with fail
    refine (szFrameS_no A0 n0 c0 (1048576) _ (by omega) (by omega) (by omega) _N0).mono ?_
    rintro e w' ⟨rfl, rfl⟩
    go_wp2_with fail
    go_ret
    exact ⟨rfl, Below.refl _ _⟩

theorem sameFrames_walk (A0 : Option Addr) (n0 c0 : Nat) (x0 : List (Int × Int)) (A1 : Option Addr) (n1 c1 : Nat) (x1 : List (Int × Int)) (w : World) (_N0 : n0 ≤ maxLen) (S0 : Sl w 2 e2 A0 n0 x0) (_B0 : ∀ x ∈ x0, In64 x.1 ∧ In64 x.2) (_N1 : n1 ≤ maxLen) (S1 : Sl w 2 e2 A1 n1 x1) (_B1 : ∀ x ∈ x1, In64 x.1 ∧ In64 x.2) :
    Calls Try.prog 3 #[.slice A0 n0 c0, .slice A1 n1 c1] w fun e w' => e = .returned (.bool true) ∧ Below w.heap.size w w' := by
  by_cases hl0 : (n0 : Int) ≤ 1048576
  · by_cases hl1 : (n1 : Int) ≤ 1048576 - n0
    · go_enter Try.func3, Try.ntmps3
      go_wp2_with fail
      refine (szFrameS_yes A0 n0 c0 (1048576) _ (by omega) (by omega) hl0).mono ?_
      rintro e w' ⟨rfl, rfl⟩
      go_wp2_with fail
      refine (szFrameS_yes A1 n1 c1 (1048576 - n0) _ (by omega) (by omega) hl1).mono ?_
      rintro e w' ⟨rfl, rfl⟩
      go_wp2_with fail
      refine (toFrameS_any A0 n0 c0 x0 _ (S0.below (Below.refl w.heap.size w)) (by omega)).mono ?_
      rintro e w1 ⟨rfl, s0x, b1⟩
      have B1 := below_step (Below.refl w.heap.size w) b1
      go_wp2_with fail
      refine (toFrameS_any A1 n1 c1 x1 _ (S1.below B1) (by omega)).mono ?_
      rintro e w2 ⟨rfl, s1x, b2⟩
      have B2 := below_step B1 b2
      have s0x_2 := s0x.below b2
      go_wp2_with fail
      refine (specSameFrames_any _ n0 n0 x0 _ n1 n1 x1 _ (s0x_2.sl e2_len) (by omega) (s1x.sl e2_len) (by omega)).mono ?_
      rintro e w3 ⟨rfl, b3⟩
      have B3 := below_step B2 b3
      go_wp2_with fail
      refine (toFrameS_any A0 n0 c0 x0 _ (S0.below B3) (by omega)).mono ?_
      rintro e w4 ⟨rfl, y0, b4⟩
      have B4 := below_step B3 b4
      go_wp2_with fail
      refine (toFrameS_any A1 n1 c1 x1 _ (S1.below B4) (by omega)).mono ?_
      rintro e w5 ⟨rfl, y1, b5⟩
      have B5 := below_step B4 b5
      have y0_5 := y0.below b5
      go_wp2_with fail
      refine (implSameFrames_any _ n0 n0 x0 _ n1 n1 x1 _ (y0_5.sl e2_len) (by omega) (y1.sl e2_len) (by omega)).mono ?_
      rintro e w6 ⟨rfl, b6⟩
      have B6 := below_step B5 b6
      have y0_6 := y0_5.below b6
      have y1_6 := y1.below b6
      go_wp2_with fail
      refine (toFrameS_any A0 n0 c0 x0 _ (S0.below B6) (by omega)).mono ?_
      rintro e w7 ⟨rfl, t0, b7⟩
      have B7 := below_step B6 b7
      have y0_7 := y0_6.below b7
      have y1_7 := y1_6.below b7
      go_wp2_with fail
      refine (eqFrameS_any _ n0 n0 x0 _ n0 n0 x0 _ (y0_7.sl e2_len) (by omega) (t0.sl e2_len) (by omega)).mono ?_
      rintro e w8 ⟨rfl, b8⟩
      have B8 := below_step B7 b8
      have y0_8 := y0_7.below b8
      have y1_8 := y1_7.below b8
      go_wp2_with fail
      refine (toFrameS_any A1 n1 c1 x1 _ (S1.below B8) (by omega)).mono ?_
      rintro e w9 ⟨rfl, t1, b9⟩
      have B9 := below_step B8 b9
      have y0_9 := y0_8.below b9
      have y1_9 := y1_8.below b9
      go_wp2_with fail
      refine (eqFrameS_any _ n1 n1 x1 _ n1 n1 x1 _ (y1_9.sl e2_len) (by omega) (t1.sl e2_len) (by omega)).mono ?_
      rintro e w10 ⟨rfl, b10⟩
      have B10 := below_step B9 b10
      have y0_10 := y0_9.below b10
      have y1_10 := y1_9.below b10
      go_wp2_with fail
      go_ret
      exact ⟨rfl, B10⟩
    · go_enter Try.func3, Try.ntmps3
      go_wp2_with fail
      refine (szFrameS_yes A0 n0 c0 (1048576) _ (by omega) (by omega) hl0).mono ?_
      rintro e w' ⟨rfl, rfl⟩
      go_wp2_with fail
      refine (szFrameS_no A1 n1 c1 (1048576 - n0) _ (by omega) (by omega) (by omega) _N1).mono ?_
      rintro e w' ⟨rfl, rfl⟩
      go_wp2_with fail
      go_ret
      exact ⟨rfl, Below.refl _ _⟩
  · go_enter Try.func3, Try.ntmps3
    go_wp2_with fail
    refine (szFrameS_no A0 n0 c0 (1048576) _ (by omega) (by omega) (by omega) _N0).mono ?_
    rintro e w' ⟨rfl, rfl⟩
    go_wp2_with fail
    go_ret
    exact ⟨rfl, Below.refl _ _⟩

theorem totalMillis_walk (A0 : Option Addr) (n0 c0 : Nat) (x0 : List (Int × Int)) (w : World) (_N0 : n0 ≤ maxLen) (S0 : Sl w 2 e2 A0 n0 x0) (_B0 : ∀ x ∈ x0, In64 x.1 ∧ In64 x.2) :
    Calls Try.prog 6 #[.slice A0 n0 c0] w fun e w' => e = .returned (.bool true) ∧ Below w.heap.size w w' := by
  by_cases hl0 : (n0 : Int) ≤ 1048576
  · go_enter Try.func6, Try.ntmps6
    go_wp2_with fail
    refine (szFrameS_yes A0 n0 c0 (1048576) _ (by omega) (by omega) hl0).mono ?_
    rintro e w' ⟨rfl, rfl⟩
    go_wp2_with fail
    refine (toFrameS_any A0 n0 c0 x0 _ (S0.below (Below.refl w.heap.size w)) (by omega)).mono ?_
    rintro e w1 ⟨rfl, s0x, b1⟩
    have B1 := below_step (Below.refl w.heap.size w) b1
    go_wp2_with fail
    refine (specTotalMillis_any _ n0 n0 x0 _ (s0x.sl e2_len) (by omega)).mono ?_
    rintro e w2 ⟨rfl, b2⟩
    have B2 := below_step B1 b2
    go_wp2_with fail
    refine (toFrameS_any A0 n0 c0 x0 _ (S0.below B2) (by omega)).mono ?_
    rintro e w3 ⟨rfl, y0, b3⟩
    have B3 := below_step B2 b3
    go_wp2_with fail
    refine (implTotalMillis_any _ n0 n0 x0 _ (y0.sl e2_len) (by omega)).mono ?_
    rintro e w4 ⟨rfl, b4⟩
    have B4 := below_step B3 b4
    have y0_4 := y0.below b4
    go_wp2_with fail
    refine (toFrameS_any A0 n0 c0 x0 _ (S0.below B4) (by omega)).mono ?_
    rintro e w5 ⟨rfl, t0, b5⟩
    have B5 := below_step B4 b5
    have y0_5 := y0_4.below b5
    go_wp2_with fail
    refine (eqFrameS_any _ n0 n0 x0 _ n0 n0 x0 _ (y0_5.sl e2_len) (by omega) (t0.sl e2_len) (by omega)).mono ?_
    rintro e w6 ⟨rfl, b6⟩
    have B6 := below_step B5 b6
    have y0_6 := y0_5.below b6
    go_wp2_with fail
    go_ret
    exact ⟨rfl, B6⟩
  · go_enter Try.func6, Try.ntmps6
    go_wp2_with fail
    refine (szFrameS_no A0 n0 c0 (1048576) _ (by omega) (by omega) (by omega) _N0).mono ?_
    rintro e w' ⟨rfl, rfl⟩
    go_wp2_with fail
    go_ret
    exact ⟨rfl, Below.refl _ _⟩

theorem leastPersist_walk (A0 : Option Addr) (n0 c0 : Nat) (x0 : List (Int × Int)) (w : World) (_N0 : n0 ≤ maxLen) (S0 : Sl w 2 e2 A0 n0 x0) (_B0 : ∀ x ∈ x0, In64 x.1 ∧ In64 x.2) :
    Calls Try.prog 7 #[.slice A0 n0 c0] w fun e w' => e = .returned (.bool true) ∧ Below w.heap.size w w' := by
  by_cases hl0 : (n0 : Int) ≤ 1048576
  · go_enter Try.func7, Try.ntmps7
    go_wp2_with fail
    refine (szFrameS_yes A0 n0 c0 (1048576) _ (by omega) (by omega) hl0).mono ?_
    rintro e w' ⟨rfl, rfl⟩
    go_wp2_with fail
    refine (toFrameS_any A0 n0 c0 x0 _ (S0.below (Below.refl w.heap.size w)) (by omega)).mono ?_
    rintro e w1 ⟨rfl, s0x, b1⟩
    have B1 := below_step (Below.refl w.heap.size w) b1
    go_wp2_with fail
    refine (specLeastPersist_any _ n0 n0 x0 _ (s0x.sl e2_len) (by omega)).mono ?_
    rintro e w2 ⟨rfl, b2⟩
    have B2 := below_step B1 b2
    go_wp2_with fail
    refine (toFrameS_any A0 n0 c0 x0 _ (S0.below B2) (by omega)).mono ?_
    rintro e w3 ⟨rfl, y0, b3⟩
    have B3 := below_step B2 b3
    go_wp2_with fail
    refine (implLeastPersist_any _ n0 n0 x0 _ (y0.sl e2_len) (by omega)).mono ?_
    rintro e w4 ⟨rfl, b4⟩
    have B4 := below_step B3 b4
    have y0_4 := y0.below b4
    go_wp2_with fail
    refine (toFrameS_any A0 n0 c0 x0 _ (S0.below B4) (by omega)).mono ?_
    rintro e w5 ⟨rfl, t0, b5⟩
    have B5 := below_step B4 b5
    have y0_5 := y0_4.below b5
    go_wp2_with fail
    refine (eqFrameS_any _ n0 n0 x0 _ n0 n0 x0 _ (y0_5.sl e2_len) (by omega) (t0.sl e2_len) (by omega)).mono ?_
    rintro e w6 ⟨rfl, b6⟩
    have B6 := below_step B5 b6
    have y0_6 := y0_5.below b6
    go_wp2_with fail
    go_ret
    exact ⟨rfl, B6⟩
  · go_enter Try.func7, Try.ntmps7
    go_wp2_with fail
    refine (szFrameS_no A0 n0 c0 (1048576) _ (by omega) (by omega) (by omega) _N0).mono ?_
    rintro e w' ⟨rfl, rfl⟩
    go_wp2_with fail
    go_ret
    exact ⟨rfl, Below.refl _ _⟩

theorem frameAt_walk (A0 : Option Addr) (n0 c0 : Nat) (x0 : List (Int × Int)) (a1 : Int) (w : World) (_N0 : n0 ≤ maxLen) (S0 : Sl w 2 e2 A0 n0 x0) (_B0 : ∀ x ∈ x0, In64 x.1 ∧ In64 x.2) (b_1 : In64 a1) :
    Calls Try.prog 8 #[.slice A0 n0 c0, .int .i64 a1] w fun e w' => e = .returned (.bool true) ∧ Below w.heap.size w w' := by
  by_cases hl0 : (n0 : Int) ≤ 1048576
  · go_enter Try.func8, Try.ntmps8
    go_wp2_with fail
    refine (szFrameS_yes A0 n0 c0 (1048576) _ (by omega) (by omega) hl0).mono ?_
    rintro e w' ⟨rfl, rfl⟩
    go_wp2_with fail
    refine (toFrameS_any A0 n0 c0 x0 _ (S0.below (Below.refl w.heap.size w)) (by omega)).mono ?_
    rintro e w1 ⟨rfl, s0x, b1⟩
    have B1 := below_step (Below.refl w.heap.size w) b1
    go_wp2_with fail
    refine (specFrameAt_any _ n0 n0 x0 a1 _ (s0x.sl e2_len) (by omega) b_1).mono ?_
    rintro e w2 ⟨rfl, b2⟩
    have B2 := below_step B1 b2
    go_wp2_with fail
    refine (toFrameS_any A0 n0 c0 x0 _ (S0.below B2) (by omega)).mono ?_
    rintro e w3 ⟨rfl, y0, b3⟩
    have B3 := below_step B2 b3
    go_wp2_with fail
    refine (implFrameAt_any _ n0 n0 x0 a1 _ (y0.sl e2_len) (by omega) b_1).mono ?_
    rintro e w4 ⟨rfl, b4⟩
    have B4 := below_step B3 b4
    have y0_4 := y0.below b4
    go_wp2_with fail
    refine (toFrameS_any A0 n0 c0 x0 _ (S0.below B4) (by omega)).mono ?_
    rintro e w5 ⟨rfl, t0, b5⟩
    have B5 := below_step B4 b5
    have y0_5 := y0_4.below b5
    go_wp2_with fail
    refine (eqFrameS_any _ n0 n0 x0 _ n0 n0 x0 _ (y0_5.sl e2_len) (by omega) (t0.sl e2_len) (by omega)).mono ?_
    rintro e w6 ⟨rfl, b6⟩
    have B6 := below_step B5 b6
    have y0_6 := y0_5.below b6
    go_wp2_with fail
    go_ret
    exact ⟨rfl, B6⟩
  · go_enter Try.func8, Try.ntmps8
    go_wp2_with fail
    refine (szFrameS_no A0 n0 c0 (1048576) _ (by omega) (by omega) (by omega) _N0).mono ?_
    rintro e w' ⟨rfl, rfl⟩
    go_wp2_with fail
    go_ret
    exact ⟨rfl, Below.refl _ _⟩

theorem gapsSeen_walk (A0 : Option Addr) (n0 c0 : Nat) (x0 : List (Int × Int)) (a1 : Int) (w : World) (_N0 : n0 ≤ maxLen) (S0 : Sl w 2 e2 A0 n0 x0) (_B0 : ∀ x ∈ x0, In64 x.1 ∧ In64 x.2) (b_1 : In64 a1) :
    Calls Try.prog 9 #[.slice A0 n0 c0, .int .i64 a1] w fun e w' => e = .returned (.bool true) ∧ Below w.heap.size w w' := by
  by_cases hl0 : (n0 : Int) ≤ 1048576
  · go_enter Try.func9, Try.ntmps9
    go_wp2_with fail
    refine (szFrameS_yes A0 n0 c0 (1048576) _ (by omega) (by omega) hl0).mono ?_
    rintro e w' ⟨rfl, rfl⟩
    go_wp2_with fail
    refine (toFrameS_any A0 n0 c0 x0 _ (S0.below (Below.refl w.heap.size w)) (by omega)).mono ?_
    rintro e w1 ⟨rfl, s0x, b1⟩
    have B1 := below_step (Below.refl w.heap.size w) b1
    go_wp2_with fail
    refine (specGapsSeen_any _ n0 n0 x0 a1 _ (s0x.sl e2_len) (by omega) b_1).mono ?_
    rintro e w2 ⟨rfl, b2⟩
    have B2 := below_step B1 b2
    go_wp2_with fail
    refine (toFrameS_any A0 n0 c0 x0 _ (S0.below B2) (by omega)).mono ?_
    rintro e w3 ⟨rfl, y0, b3⟩
    have B3 := below_step B2 b3
    go_wp2_with fail
    refine (implGapsSeen_any _ n0 n0 x0 a1 _ (y0.sl e2_len) (by omega) b_1).mono ?_
    rintro e w4 ⟨rfl, b4⟩
    have B4 := below_step B3 b4
    have y0_4 := y0.below b4
    go_wp2_with fail
    refine (toFrameS_any A0 n0 c0 x0 _ (S0.below B4) (by omega)).mono ?_
    rintro e w5 ⟨rfl, t0, b5⟩
    have B5 := below_step B4 b5
    have y0_5 := y0_4.below b5
    go_wp2_with fail
    refine (eqFrameS_any _ n0 n0 x0 _ n0 n0 x0 _ (y0_5.sl e2_len) (by omega) (t0.sl e2_len) (by omega)).mono ?_
    rintro e w6 ⟨rfl, b6⟩
    have B6 := below_step B5 b6
    have y0_6 := y0_5.below b6
    go_wp2_with fail
    go_ret
    exact ⟨rfl, B6⟩
  · go_enter Try.func9, Try.ntmps9
    go_wp2_with fail
    refine (szFrameS_no A0 n0 c0 (1048576) _ (by omega) (by omega) (by omega) _N0).mono ?_
    rintro e w' ⟨rfl, rfl⟩
    go_wp2_with fail
    go_ret
    exact ⟨rfl, Below.refl _ _⟩

theorem blurOf_walk (A0 : Option Addr) (n0 c0 : Nat) (x0 : List (Int × Int)) (a1 : Int) (w : World) (_N0 : n0 ≤ maxLen) (S0 : Sl w 2 e2 A0 n0 x0) (_B0 : ∀ x ∈ x0, In64 x.1 ∧ In64 x.2) (b_1 : In64 a1) :
    Calls Try.prog 10 #[.slice A0 n0 c0, .int .i64 a1] w fun e w' => e = .returned (.bool true) ∧ Below w.heap.size w w' := by
  by_cases hl0 : (n0 : Int) ≤ 1048576
  · go_enter Try.func10, Try.ntmps10
    go_wp2_with fail
    refine (szFrameS_yes A0 n0 c0 (1048576) _ (by omega) (by omega) hl0).mono ?_
    rintro e w' ⟨rfl, rfl⟩
    go_wp2_with fail
    refine (toFrameS_any A0 n0 c0 x0 _ (S0.below (Below.refl w.heap.size w)) (by omega)).mono ?_
    rintro e w1 ⟨rfl, s0x, b1⟩
    have B1 := below_step (Below.refl w.heap.size w) b1
    go_wp2_with fail
    refine (specBlurOf_any _ n0 n0 x0 a1 _ (s0x.sl e2_len) (by omega) b_1).mono ?_
    rintro e w2 ⟨rfl, b2⟩
    have B2 := below_step B1 b2
    go_wp2_with fail
    refine (toFrameS_any A0 n0 c0 x0 _ (S0.below B2) (by omega)).mono ?_
    rintro e w3 ⟨rfl, y0, b3⟩
    have B3 := below_step B2 b3
    go_wp2_with fail
    refine (implBlurOf_any _ n0 n0 x0 a1 _ (y0.sl e2_len) (by omega) b_1).mono ?_
    rintro e w4 ⟨rfl, b4⟩
    have B4 := below_step B3 b4
    have y0_4 := y0.below b4
    go_wp2_with fail
    refine (toFrameS_any A0 n0 c0 x0 _ (S0.below B4) (by omega)).mono ?_
    rintro e w5 ⟨rfl, t0, b5⟩
    have B5 := below_step B4 b5
    have y0_5 := y0_4.below b5
    go_wp2_with fail
    refine (eqFrameS_any _ n0 n0 x0 _ n0 n0 x0 _ (y0_5.sl e2_len) (by omega) (t0.sl e2_len) (by omega)).mono ?_
    rintro e w6 ⟨rfl, b6⟩
    have B6 := below_step B5 b6
    have y0_6 := y0_5.below b6
    go_wp2_with fail
    go_ret
    exact ⟨rfl, B6⟩
  · go_enter Try.func10, Try.ntmps10
    go_wp2_with fail
    refine (szFrameS_no A0 n0 c0 (1048576) _ (by omega) (by omega) (by omega) _N0).mono ?_
    rintro e w' ⟨rfl, rfl⟩
    go_wp2_with fail
    go_ret
    exact ⟨rfl, Below.refl _ _⟩

theorem lightShare_walk (A0 : Option Addr) (n0 c0 : Nat) (x0 : List (Int × Int)) (w : World) (_N0 : n0 ≤ maxLen) (S0 : Sl w 2 e2 A0 n0 x0) (_B0 : ∀ x ∈ x0, In64 x.1 ∧ In64 x.2) :
    Calls Try.prog 11 #[.slice A0 n0 c0] w fun e w' => e = .returned (.bool true) ∧ Below w.heap.size w w' := by
  by_cases hl0 : (n0 : Int) ≤ 1048576
  · go_enter Try.func11, Try.ntmps11
    go_wp2_with fail
    refine (szFrameS_yes A0 n0 c0 (1048576) _ (by omega) (by omega) hl0).mono ?_
    rintro e w' ⟨rfl, rfl⟩
    go_wp2_with fail
    refine (toFrameS_any A0 n0 c0 x0 _ (S0.below (Below.refl w.heap.size w)) (by omega)).mono ?_
    rintro e w1 ⟨rfl, s0x, b1⟩
    have B1 := below_step (Below.refl w.heap.size w) b1
    go_wp2_with fail
    refine (specLightShare_any _ n0 n0 x0 _ (s0x.sl e2_len) (by omega)).mono ?_
    rintro e w2 ⟨rfl, b2⟩
    have B2 := below_step B1 b2
    go_wp2_with fail
    have bx : Own (w2.alloc (.cells #[.int .i64 (shareVal x0).1, .int .i64 (shareVal x0).2] 41)) w2.heap.size 41 2 e2 (.slice (some ⟨w2.heap.size, 0, none⟩) 1 1) [shareVal x0] := Own.lit w2 _ _ [shareVal x0] 1 (Nat.le_refl _) rfl (by simp [maxLen]) e2_len rfl
    have b3 := below_alloc w2 (.cells #[.int .i64 (shareVal x0).1, .int .i64 (shareVal x0).2] 41)
    have B3 := below_step B2 b3
    generalize w2.alloc (.cells #[.int .i64 (shareVal x0).1, .int .i64 (shareVal x0).2] 41) = w3 at bx b3 B3 ⊢
    refine (toFrameS_any A0 n0 c0 x0 _ (S0.below B3) (by omega)).mono ?_
    rintro e w4 ⟨rfl, y0, b4⟩
    have B4 := below_step B3 b4
    have bx_4 := bx.below b4
    go_wp2_with fail
    refine (implLightShare_any _ n0 n0 x0 _ (y0.sl e2_len) (by omega)).mono ?_
    rintro e w5 ⟨rfl, b5⟩
    have B5 := below_step B4 b5
    have bx_5 := bx_4.below b5
    have y0_5 := y0.below b5
    have kx := (bx_5.sl e2_len).get2 (i := 0) rfl
    have kx0 := cell_al (show w5.cell? ⟨w2.heap.size, 0, none⟩ = some (.int .i64 (shareVal x0).1) from kx.1)
    have kx1 := cell_al (show w5.cell? ⟨w2.heap.size, 1, none⟩ = some (.int .i64 (shareVal x0).2) from kx.2)
    clear kx
    go_wp2_with fail
    refine (eqFraction_any (shareVal x0) (shareVal x0) _).mono ?_
    rintro e w6 ⟨rfl, bb⟩
    have b6 := below_step (below_alloc _ _) bb
    have B6 := below_step B5 b6
    have y0_6 := y0_5.below b6
    go_wp2_with fail
    refine (toFrameS_any A0 n0 c0 x0 _ (S0.below B6) (by omega)).mono ?_
    rintro e w7 ⟨rfl, t0, b7⟩
    have B7 := below_step B6 b7
    have y0_7 := y0_6.below b7
    go_wp2_with fail
    refine (eqFrameS_any _ n0 n0 x0 _ n0 n0 x0 _ (y0_7.sl e2_len) (by omega) (t0.sl e2_len) (by omega)).mono ?_
    rintro e w8 ⟨rfl, b8⟩
    have B8 := below_step B7 b8
    have y0_8 := y0_7.below b8
    go_wp2_with fail
    go_ret
    exact ⟨rfl, B8⟩
  · go_enter Try.func11, Try.ntmps11
    go_wp2_with fail
    refine (szFrameS_no A0 n0 c0 (1048576) _ (by omega) (by omega) (by omega) _N0).mono ?_
    rintro e w' ⟨rfl, rfl⟩
    go_wp2_with fail
    go_ret
    exact ⟨rfl, Below.refl _ _⟩
end Go.Proofs.Ytkjdinhbfoghnaa
