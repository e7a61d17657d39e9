/-
  The walks of the laws on slides in lanterns.
-/
import Derived.Test.YthkcamghmfenkaaShD
namespace Go.Proofs.Ythkcamghmfenkaa
open Go.RowKit
set_option linter.unusedVariables false

theorem validShown_walk (A0 : Option Addr) (n0 c0 : Nat) (x0 : List (Int × Int × Int)) (w : World) (_N0 : n0 ≤ maxLen) (S0 : Sl w 3 e3 A0 n0 x0) (_B0 : ∀ x ∈ x0, In64 x.1 ∧ In64 x.2.1 ∧ In64 x.2.2) :
    Calls Try.prog 5 #[.slice A0 n0 c0] w fun e w' => e = .returned (.bool true) ∧ Below w.heap.size w w' := by
  by_cases hl0 : (n0 : Int) ≤ 1048576
  · go_enter Try.func5, Try.ntmps5
    go_wp2_with fail
    refine (szShownS_yes A0 n0 c0 (1048576) _ (by omega) (by omega) hl0).mono ?_
    rintro e w' ⟨rfl, rfl⟩
    go_wp2_with fail
    refine (toShownS_any A0 n0 c0 x0 _ (S0.below (Below.refl w.heap.size w)) (by omega)).mono ?_
    rintro e w1 ⟨rfl, s0x, b1⟩
    have B1 := below_step (Below.refl w.heap.size w) b1
    go_wp2_with fail
    refine (specValidShown_any _ n0 n0 x0 _ (s0x.sl e3_len) (by omega)).mono ?_
    rintro e w2 ⟨rfl, b2⟩
    have B2 := below_step B1 b2
    go_wp2_with fail
    refine (toShownS_any A0 n0 c0 x0 _ (S0.below B2) (by omega)).mono ?_
    rintro e w3 ⟨rfl, y0, b3⟩
    have B3 := below_step B2 b3
    go_wp2_with fail
    refine (implValidShown_any _ n0 n0 x0 _ (y0.sl e3_len) (by omega)).mono ?_
    rintro e w4 ⟨rfl, b4⟩
    have B4 := below_step B3 b4
    have y0_4 := y0.below b4
    go_wp2_with fail
    refine (toShownS_any A0 n0 c0 x0 _ (S0.below B4) (by omega)).mono ?_
    rintro e w5 ⟨rfl, t0, b5⟩
    have B5 := below_step B4 b5
    have y0_5 := y0_4.below b5
    go_wp2_with fail
    refine (eqShownS_any _ n0 n0 x0 _ n0 n0 x0 _ (y0_5.sl e3_len) (by omega) (t0.sl e3_len) (by omega)).mono ?_
    rintro e w6 ⟨rfl, b6⟩
    have B6 := below_step B5 b6
    have y0_6 := y0_5.below b6
    go_wp2_with fail
    go_ret
    exact ⟨rfl, B6⟩
  · go_enter Try.func5, Try.ntmps5
    go_wp2_with fail
    refine (szShownS_no A0 n0 c0 (1048576) _ (by omega) (by omega) (by omega) _N0).mono ?_
    rintro e w' ⟨rfl, rfl⟩
    go_wp2_with fail
    go_ret
    exact ⟨rfl, Below.refl _ _⟩

theorem sameShown_walk (A0 : Option Addr) (n0 c0 : Nat) (x0 : List (Int × Int × Int)) (A1 : Option Addr) (n1 c1 : Nat) (x1 : List (Int × Int × Int)) (w : World) (_N0 : n0 ≤ maxLen) (S0 : Sl w 3 e3 A0 n0 x0) (_B0 : ∀ x ∈ x0, In64 x.1 ∧ In64 x.2.1 ∧ In64 x.2.2) (_N1 : n1 ≤ maxLen) (S1 : Sl w 3 e3 A1 n1 x1) (_B1 : ∀ x ∈ x1, In64 x.1 ∧ In64 x.2.1 ∧ In64 x.2.2) :
    Calls Try.prog 3 #[.slice A0 n0 c0, .slice A1 n1 c1] w fun e w' => e = .returned (.bool true) ∧ Below w.heap.size w w' := by
  by_cases hl0 : (n0 : Int) ≤ 1048576
  · by_cases hl1 : (n1 : Int) ≤ 1048576 - n0
    · go_enter Try.func3, Try.ntmps3
      go_wp2_with fail
      refine (szShownS_yes A0 n0 c0 (1048576) _ (by omega) (by omega) hl0).mono ?_
      rintro e w' ⟨rfl, rfl⟩
      go_wp2_with fail
      refine (szShownS_yes A1 n1 c1 (1048576 - n0) _ (by omega) (by omega) hl1).mono ?_
      rintro e w' ⟨rfl, rfl⟩
      go_wp2_with fail
      refine (toShownS_any A0 n0 c0 x0 _ (S0.below (Below.refl w.heap.size w)) (by omega)).mono ?_
      rintro e w1 ⟨rfl, s0x, b1⟩
      have B1 := below_step (Below.refl w.heap.size w) b1
      go_wp2_with fail
      refine (toShownS_any A1 n1 c1 x1 _ (S1.below B1) (by omega)).mono ?_
      rintro e w2 ⟨rfl, s1x, b2⟩
      have B2 := below_step B1 b2
      have s0x_2 := s0x.below b2
      go_wp2_with fail
      refine (specSameShown_any _ n0 n0 x0 _ n1 n1 x1 _ (s0x_2.sl e3_len) (by omega) (s1x.sl e3_len) (by omega)).mono ?_
      rintro e w3 ⟨rfl, b3⟩
      have B3 := below_step B2 b3
      go_wp2_with fail
      refine (toShownS_any A0 n0 c0 x0 _ (S0.below B3) (by omega)).mono ?_
      rintro e w4 ⟨rfl, y0, b4⟩
      have B4 := below_step B3 b4
      go_wp2_with fail
      refine (toShownS_any A1 n1 c1 x1 _ (S1.below B4) (by omega)).mono ?_
      rintro e w5 ⟨rfl, y1, b5⟩
      have B5 := below_step B4 b5
      have y0_5 := y0.below b5
      go_wp2_with fail
      refine (implSameShown_any _ n0 n0 x0 _ n1 n1 x1 _ (y0_5.sl e3_len) (by omega) (y1.sl e3_len) (by omega)).mono ?_
      rintro e w6 ⟨rfl, b6⟩
      have B6 := below_step B5 b6
      have y0_6 := y0_5.below b6
      have y1_6 := y1.below b6
      go_wp2_with fail
      refine (toShownS_any A0 n0 c0 x0 _ (S0.below B6) (by omega)).mono ?_
      rintro e w7 ⟨rfl, t0, b7⟩
      have B7 := below_step B6 b7
      have y0_7 := y0_6.below b7
      have y1_7 := y1_6.below b7
      go_wp2_with fail
      refine (eqShownS_any _ n0 n0 x0 _ n0 n0 x0 _ (y0_7.sl e3_len) (by omega) (t0.sl e3_len) (by omega)).mono ?_
      rintro e w8 ⟨rfl, b8⟩
      have B8 := below_step B7 b8
      have y0_8 := y0_7.below b8
      have y1_8 := y1_7.below b8
      go_wp2_with fail
      refine (toShownS_any A1 n1 c1 x1 _ (S1.below B8) (by omega)).mono ?_
      rintro e w9 ⟨rfl, t1, b9⟩
      have B9 := below_step B8 b9
      have y0_9 := y0_8.below b9
      have y1_9 := y1_8.below b9
      go_wp2_with fail
      refine (eqShownS_any _ n1 n1 x1 _ n1 n1 x1 _ (y1_9.sl e3_len) (by omega) (t1.sl e3_len) (by omega)).mono ?_
      rintro e w10 ⟨rfl, b10⟩
      have B10 := below_step B9 b10
      have y0_10 := y0_9.below b10
      have y1_10 := y1_9.below b10
      go_wp2_with fail
      go_ret
      exact ⟨rfl, B10⟩
    · go_enter Try.func3, Try.ntmps3
      go_wp2_with fail
      refine (szShownS_yes A0 n0 c0 (1048576) _ (by omega) (by omega) hl0).mono ?_
      rintro e w' ⟨rfl, rfl⟩
      go_wp2_with fail
      refine (szShownS_no A1 n1 c1 (1048576 - n0) _ (by omega) (by omega) (by omega) _N1).mono ?_
      rintro e w' ⟨rfl, rfl⟩
      go_wp2_with fail
      go_ret
      exact ⟨rfl, Below.refl _ _⟩
  · go_enter Try.func3, Try.ntmps3
    go_wp2_with fail
    refine (szShownS_no A0 n0 c0 (1048576) _ (by omega) (by omega) (by omega) _N0).mono ?_
    rintro e w' ⟨rfl, rfl⟩
    go_wp2_with fail
    go_ret
    exact ⟨rfl, Below.refl _ _⟩

theorem levelAt_walk (f0_0 f0_1 f0_2 : Int) (a1 : Int) (w : World) (b_0 : In64 f0_0 ∧ In64 f0_1 ∧ In64 f0_2) (b_1 : In64 a1) :
    Calls Try.prog 6 #[.agg #[.int .i64 f0_0, .int .i64 f0_1, .int .i64 f0_2], .int .i64 a1] w fun e w' => e = .returned (.bool true) ∧ Below w.heap.size w w' := by
  go_enter Try.func6, Try.ntmps6
  go_wp2_with fail
  have p0 : Own (w.alloc (.cells #[.int .i64 f0_0, .int .i64 f0_1, .int .i64 f0_2] 35)) w.heap.size 35 3 e3 (.slice (some ⟨w.heap.size, 0, none⟩) 1 1) [(f0_0, f0_1, f0_2)] := Own.lit w _ _ [(f0_0, f0_1, f0_2)] 1 (Nat.le_refl _) rfl (by simp [maxLen]) e3_len rfl
  have b1 := below_alloc w (.cells #[.int .i64 f0_0, .int .i64 f0_1, .int .i64 f0_2] 35)
  have B1 := below_step (Below.refl w.heap.size w) b1
  generalize w.alloc (.cells #[.int .i64 f0_0, .int .i64 f0_1, .int .i64 f0_2] 35) = w1 at p0 b1 B1 ⊢
  refine (toShown_any (f0_0, f0_1, f0_2) _).mono ?_
  rintro e w2 ⟨rfl, b2⟩
  have B2 := below_step B1 b2
  have p0_2 := p0.below b2
  go_wp2_with fail
  refine (specLevelAt_any (f0_0, f0_1, f0_2) a1 _ b_0 b_1).mono ?_
  rintro e w3 ⟨rfl, b3⟩
  have B3 := below_step B2 b3
  have p0_3 := p0_2.below b3
  have kx := (p0_3.sl e3_len).get3 (i := 0) rfl
  obtain ⟨k3_0, k3_1, k3_2⟩ := kx
  go_wp2_with fail
  refine (toShown_any (f0_0, f0_1, f0_2) _).mono ?_
  rintro e w4 ⟨rfl, b4⟩
  have B4 := below_step B3 b4
  have p0_4 := p0_3.below b4
  go_wp2_with fail
  refine (implLevelAt_any (f0_0, f0_1, f0_2) a1 _ b_0 b_1).mono ?_
  rintro e w5 ⟨rfl, b5⟩
  have B5 := below_step B4 b5
  have p0_5 := p0_4.below b5
  go_wp2_with fail
  go_ret
  exact ⟨rfl, B5⟩

theorem lightAt_walk (A0 : Option Addr) (n0 c0 : Nat) (x0 : List (Int × Int × Int)) (a1 : Int) (w : World) (_N0 : n0 ≤ maxLen) (S0 : Sl w 3 e3 A0 n0 x0) (_B0 : ∀ x ∈ x0, In64 x.1 ∧ In64 x.2.1 ∧ In64 x.2.2) (b_1 : In64 a1) :
    Calls Try.prog 8 #[.slice A0 n0 c0, .int .i64 a1] w fun e w' => e = .returned (.bool true) ∧ Below w.heap.size w w' := by
  by_cases hl0 : (n0 : Int) ≤ 1048576
  · go_enter Try.func8, Try.ntmps8
    go_wp2_with fail
    refine (szShownS_yes A0 n0 c0 (1048576) _ (by omega) (by omega) hl0).mono ?_
    rintro e w' ⟨rfl, rfl⟩
    go_wp2_with fail
    refine (toShownS_any A0 n0 c0 x0 _ (S0.below (Below.refl w.heap.size w)) (by omega)).mono ?_
    rintro e w1 ⟨rfl, s0x, b1⟩
    have B1 := below_step (Below.refl w.heap.size w) b1
    go_wp2_with fail
    refine (specLightAt_any _ n0 n0 x0 a1 _ (s0x.sl e3_len) (by omega) b_1).mono ?_
    rintro e w2 ⟨rfl, b2⟩
    have B2 := below_step B1 b2
    go_wp2_with fail
    refine (toShownS_any A0 n0 c0 x0 _ (S0.below B2) (by omega)).mono ?_
    rintro e w3 ⟨rfl, y0, b3⟩
    have B3 := below_step B2 b3
    go_wp2_with fail
    refine (implLightAt_any _ n0 n0 x0 a1 _ (y0.sl e3_len) (by omega) b_1).mono ?_
    rintro e w4 ⟨rfl, b4⟩
    have B4 := below_step B3 b4
    have y0_4 := y0.below b4
    go_wp2_with fail
    refine (toShownS_any A0 n0 c0 x0 _ (S0.below B4) (by omega)).mono ?_
    rintro e w5 ⟨rfl, t0, b5⟩
    have B5 := below_step B4 b5
    have y0_5 := y0_4.below b5
    go_wp2_with fail
    refine (eqShownS_any _ n0 n0 x0 _ n0 n0 x0 _ (y0_5.sl e3_len) (by omega) (t0.sl e3_len) (by omega)).mono ?_
    rintro e w6 ⟨rfl, b6⟩
    have B6 := below_step B5 b6
    have y0_6 := y0_5.below b6
    go_wp2_with fail
    go_ret
    exact ⟨rfl, B6⟩
  · go_enter Try.func8, Try.ntmps8
    go_wp2_with fail
    refine (szShownS_no A0 n0 c0 (1048576) _ (by omega) (by omega) (by omega) _N0).mono ?_
    rintro e w' ⟨rfl, rfl⟩
    go_wp2_with fail
    go_ret
    exact ⟨rfl, Below.refl _ _⟩

theorem fewestLanterns_walk (A0 : Option Addr) (n0 c0 : Nat) (x0 : List (Int × Int × Int)) (w : World) (_N0 : n0 ≤ maxLen) (S0 : Sl w 3 e3 A0 n0 x0) (_B0 : ∀ x ∈ x0, In64 x.1 ∧ In64 x.2.1 ∧ In64 x.2.2) :
    Calls Try.prog 7 #[.slice A0 n0 c0] w fun e w' => e = .returned (.bool true) ∧ Below w.heap.size w w' := by
  by_cases hl0 : (n0 : Int) ≤ 1048576
  · go_enter Try.func7, Try.ntmps7
    go_wp2_with fail
    refine (szShownS_yes A0 n0 c0 (1048576) _ (by omega) (by omega) hl0).mono ?_
    rintro e w' ⟨rfl, rfl⟩
    go_wp2_with fail
    refine (toShownS_any A0 n0 c0 x0 _ (S0.below (Below.refl w.heap.size w)) (by omega)).mono ?_
    rintro e w1 ⟨rfl, s0x, b1⟩
    have B1 := below_step (Below.refl w.heap.size w) b1
    go_wp2_with fail
    refine (specFewestLanterns_any _ n0 n0 x0 _ (s0x.sl e3_len) (by omega)).mono ?_
    rintro e w2 ⟨rfl, b2⟩
    have B2 := below_step B1 b2
    go_wp2_with fail
    refine (toShownS_any A0 n0 c0 x0 _ (S0.below B2) (by omega)).mono ?_
    rintro e w3 ⟨rfl, y0, b3⟩
    have B3 := below_step B2 b3
    go_wp2_with fail
    refine (implFewestLanterns_any _ n0 n0 x0 _ (y0.sl e3_len) (by omega)).mono ?_
    rintro e w4 ⟨rfl, b4⟩
    have B4 := below_step B3 b4
    have y0_4 := y0.below b4
    go_wp2_with fail
    refine (toShownS_any A0 n0 c0 x0 _ (S0.below B4) (by omega)).mono ?_
    rintro e w5 ⟨rfl, t0, b5⟩
    have B5 := below_step B4 b5
    have y0_5 := y0_4.below b5
    go_wp2_with fail
    refine (eqShownS_any _ n0 n0 x0 _ n0 n0 x0 _ (y0_5.sl e3_len) (by omega) (t0.sl e3_len) (by omega)).mono ?_
    rintro e w6 ⟨rfl, b6⟩
    have B6 := below_step B5 b6
    have y0_6 := y0_5.below b6
    go_wp2_with fail
    go_ret
    exact ⟨rfl, B6⟩
  · go_enter Try.func7, Try.ntmps7
    go_wp2_with fail
    refine (szShownS_no A0 n0 c0 (1048576) _ (by omega) (by omega) (by omega) _N0).mono ?_
    rintro e w' ⟨rfl, rfl⟩
    go_wp2_with fail
    go_ret
    exact ⟨rfl, Below.refl _ _⟩

theorem firstDarkTick_walk (A0 : Option Addr) (n0 c0 : Nat) (x0 : List (Int × Int × Int)) (a1 : Int) (a2 : Int) (w : World) (_N0 : n0 ≤ maxLen) (S0 : Sl w 3 e3 A0 n0 x0) (_B0 : ∀ x ∈ x0, In64 x.1 ∧ In64 x.2.1 ∧ In64 x.2.2) (b_1 : In64 a1) (b_2 : In64 a2) :
    Calls Try.prog 11 #[.slice A0 n0 c0, .int .i64 a1, .int .i64 a2] w fun e w' => e = .returned (.bool true) ∧ Below w.heap.size w w' := by
  by_cases hl0 : (n0 : Int) ≤ 1048576
  · go_enter Try.func11, Try.ntmps11
    go_wp2_with fail
    refine (szShownS_yes A0 n0 c0 (1048576) _ (by omega) (by omega) hl0).mono ?_
    rintro e w' ⟨rfl, rfl⟩
    go_wp2_with fail
    refine (toShownS_any A0 n0 c0 x0 _ (S0.below (Below.refl w.heap.size w)) (by omega)).mono ?_
    rintro e w1 ⟨rfl, s0x, b1⟩
    have B1 := below_step (Below.refl w.heap.size w) b1
    go_wp2_with fail
    refine (specFirstDarkTick_any _ n0 n0 x0 a1 a2 _ (s0x.sl e3_len) (by omega) b_1 b_2).mono ?_
    rintro e w2 ⟨rfl, b2⟩
    have B2 := below_step B1 b2
    go_wp2_with fail
    refine (toShownS_any A0 n0 c0 x0 _ (S0.below B2) (by omega)).mono ?_
    rintro e w3 ⟨rfl, y0, b3⟩
    have B3 := below_step B2 b3
    go_wp2_with fail
    refine (implFirstDarkTick_any _ n0 n0 x0 a1 a2 _ (y0.sl e3_len) (by omega) b_1 b_2).mono ?_
    rintro e w4 ⟨rfl, b4⟩
    have B4 := below_step B3 b4
    have y0_4 := y0.below b4
    go_wp2_with fail
    refine (toShownS_any A0 n0 c0 x0 _ (S0.below B4) (by omega)).mono ?_
    rintro e w5 ⟨rfl, t0, b5⟩
    have B5 := below_step B4 b5
    have y0_5 := y0_4.below b5
    go_wp2_with fail
    refine (eqShownS_any _ n0 n0 x0 _ n0 n0 x0 _ (y0_5.sl e3_len) (by omega) (t0.sl e3_len) (by omega)).mono ?_
    rintro e w6 ⟨rfl, b6⟩
    have B6 := below_step B5 b6
    have y0_6 := y0_5.below b6
    go_wp2_with fail
    go_ret
    exact ⟨rfl, B6⟩
  · go_enter Try.func11, Try.ntmps11
    go_wp2_with fail
    refine (szShownS_no A0 n0 c0 (1048576) _ (by omega) (by omega) (by omega) _N0).mono ?_
    rintro e w' ⟨rfl, rfl⟩
    go_wp2_with fail
    go_ret
    exact ⟨rfl, Below.refl _ _⟩

theorem darkTicks_walk (A0 : Option Addr) (n0 c0 : Nat) (x0 : List (Int × Int × Int)) (a1 : Int) (a2 : Int) (w : World) (_N0 : n0 ≤ maxLen) (S0 : Sl w 3 e3 A0 n0 x0) (_B0 : ∀ x ∈ x0, In64 x.1 ∧ In64 x.2.1 ∧ In64 x.2.2) (b_1 : In64 a1) (b_2 : In64 a2) :
    Calls Try.prog 12 #[.slice A0 n0 c0, .int .i64 a1, .int .i64 a2] w fun e w' => e = .returned (.bool true) ∧ Below w.heap.size w w' := by
  by_cases hl0 : (n0 : Int) ≤ 1048576
  · go_enter Try.func12, Try.ntmps12
    go_wp2_with fail
    refine (szShownS_yes A0 n0 c0 (1048576) _ (by omega) (by omega) hl0).mono ?_
    rintro e w' ⟨rfl, rfl⟩
    go_wp2_with fail
    refine (toShownS_any A0 n0 c0 x0 _ (S0.below (Below.refl w.heap.size w)) (by omega)).mono ?_
    rintro e w1 ⟨rfl, s0x, b1⟩
    have B1 := below_step (Below.refl w.heap.size w) b1
    go_wp2_with fail
    refine (specDarkTicks_any _ n0 n0 x0 a1 a2 _ (s0x.sl e3_len) (by omega) b_1 b_2).mono ?_
    rintro e w2 ⟨rfl, b2⟩
    have B2 := below_step B1 b2
    go_wp2_with fail
    refine (toShownS_any A0 n0 c0 x0 _ (S0.below B2) (by omega)).mono ?_
    rintro e w3 ⟨rfl, y0, b3⟩
    have B3 := below_step B2 b3
    go_wp2_with fail
    refine (implDarkTicks_any _ n0 n0 x0 a1 a2 _ (y0.sl e3_len) (by omega) b_1 b_2).mono ?_
    rintro e w4 ⟨rfl, b4⟩
    have B4 := below_step B3 b4
    have y0_4 := y0.below b4
    go_wp2_with fail
    refine (toShownS_any A0 n0 c0 x0 _ (S0.below B4) (by omega)).mono ?_
    rintro e w5 ⟨rfl, t0, b5⟩
    have B5 := below_step B4 b5
    have y0_5 := y0_4.below b5
    go_wp2_with fail
    refine (eqShownS_any _ n0 n0 x0 _ n0 n0 x0 _ (y0_5.sl e3_len) (by omega) (t0.sl e3_len) (by omega)).mono ?_
    rintro e w6 ⟨rfl, b6⟩
    have B6 := below_step B5 b6
    have y0_6 := y0_5.below b6
    go_wp2_with fail
    go_ret
    exact ⟨rfl, B6⟩
  · go_enter Try.func12, Try.ntmps12
    go_wp2_with fail
    refine (szShownS_no A0 n0 c0 (1048576) _ (by omega) (by omega) (by omega) _N0).mono ?_
    rintro e w' ⟨rfl, rfl⟩
    go_wp2_with fail
    go_ret
    exact ⟨rfl, Below.refl _ _⟩

theorem brightest_walk (A0 : Option Addr) (n0 c0 : Nat) (x0 : List (Int × Int × Int)) (w : World) (_N0 : n0 ≤ maxLen) (S0 : Sl w 3 e3 A0 n0 x0) (_B0 : ∀ x ∈ x0, In64 x.1 ∧ In64 x.2.1 ∧ In64 x.2.2) :
    Calls Try.prog 10 #[.slice A0 n0 c0] w fun e w' => e = .returned (.bool true) ∧ Below w.heap.size w w' := by
  by_cases hl0 : (n0 : Int) ≤ 1048576
  · go_enter Try.func10, Try.ntmps10
    go_wp2_with fail
    refine (szShownS_yes A0 n0 c0 (1048576) _ (by omega) (by omega) hl0).mono ?_
    rintro e w' ⟨rfl, rfl⟩
    go_wp2_with fail
    refine (toShownS_any A0 n0 c0 x0 _ (S0.below (Below.refl w.heap.size w)) (by omega)).mono ?_
    rintro e w1 ⟨rfl, s0x, b1⟩
    have B1 := below_step (Below.refl w.heap.size w) b1
    go_wp2_with fail
    refine (specBrightest_any _ n0 n0 x0 _ (s0x.sl e3_len) (by omega)).mono ?_
    rintro e w2 ⟨rfl, b2⟩
    have B2 := below_step B1 b2
    go_wp2_with fail
    refine (toShownS_any A0 n0 c0 x0 _ (S0.below B2) (by omega)).mono ?_
    rintro e w3 ⟨rfl, y0, b3⟩
    have B3 := below_step B2 b3
    go_wp2_with fail
    refine (implBrightest_any _ n0 n0 x0 _ (y0.sl e3_len) (by omega)).mono ?_
    rintro e w4 ⟨rfl, b4⟩
    have B4 := below_step B3 b4
    have y0_4 := y0.below b4
    go_wp2_with fail
    refine (toShownS_any A0 n0 c0 x0 _ (S0.below B4) (by omega)).mono ?_
    rintro e w5 ⟨rfl, t0, b5⟩
    have B5 := below_step B4 b5
    have y0_5 := y0_4.below b5
    go_wp2_with fail
    refine (eqShownS_any _ n0 n0 x0 _ n0 n0 x0 _ (y0_5.sl e3_len) (by omega) (t0.sl e3_len) (by omega)).mono ?_
    rintro e w6 ⟨rfl, b6⟩
    have B6 := below_step B5 b6
    have y0_6 := y0_5.below b6
    go_wp2_with fail
    go_ret
    exact ⟨rfl, B6⟩
  · go_enter Try.func10, Try.ntmps10
    go_wp2_with fail
    refine (szShownS_no A0 n0 c0 (1048576) _ (by omega) (by omega) (by omega) _N0).mono ?_
    rintro e w' ⟨rfl, rfl⟩
    go_wp2_with fail
    go_ret
    exact ⟨rfl, Below.refl _ _⟩
end Go.Proofs.Ythkcamghmfenkaa
