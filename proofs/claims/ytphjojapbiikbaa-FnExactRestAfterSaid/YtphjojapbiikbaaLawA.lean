/-
  The walks of the laws on lamps.
-/
import Derived.Test.YtphjojapbiikbaaLmB
namespace Go.Proofs.Ytphjojapbiikbaa
open Go.RowKit
set_option linter.unusedVariables false

theorem validLamp_walk (f0_0 f0_1 f0_2 : Int) (w : World) (b_0 : In64 f0_0 ∧ In64 f0_1 ∧ In64 f0_2) :
    Calls Try.prog 3 #[.agg #[.int .i64 f0_0, .int .i64 f0_1, .int .i64 f0_2]] w fun e w' => e = .returned (.bool true) ∧ Below w.heap.size w w' := by
  go_enter Try.func3, Try.ntmps3
  go_wp2_with fail
  have p0 : Own (w.alloc (.cells #[.int .i64 f0_0, .int .i64 f0_1, .int .i64 f0_2] 23)) w.heap.size 23 3 e3 (.slice (some ⟨w.heap.size, 0, none⟩) 1 1) [(f0_0, f0_1, f0_2)] := Own.lit w _ _ [(f0_0, f0_1, f0_2)] 1 (Nat.le_refl _) rfl (by simp [maxLen]) e3_len rfl
  have b1 := below_alloc w (.cells #[.int .i64 f0_0, .int .i64 f0_1, .int .i64 f0_2] 23)
  have B1 := below_step (Below.refl w.heap.size w) b1
  generalize w.alloc (.cells #[.int .i64 f0_0, .int .i64 f0_1, .int .i64 f0_2] 23) = w1 at p0 b1 B1 ⊢
  refine (toLamp_any (f0_0, f0_1, f0_2) _).mono ?_
  rintro e w2 ⟨rfl, b2⟩
  have B2 := below_step B1 b2
  have p0_2 := p0.below b2
  go_wp2_with fail
  refine (specValidLamp_any (f0_0, f0_1, f0_2) _ b_0).mono ?_
  rintro e w3 ⟨rfl, b3⟩
  have B3 := below_step B2 b3
  have p0_3 := p0_2.below b3
  have kx := (p0_3.sl e3_len).get3 (i := 0) rfl
  obtain ⟨k3_0, k3_1, k3_2⟩ := kx
  go_wp2_with fail
  refine (toLamp_any (f0_0, f0_1, f0_2) _).mono ?_
  rintro e w4 ⟨rfl, b4⟩
  have B4 := below_step B3 b4
  have p0_4 := p0_3.below b4
  go_wp2_with fail
  refine (implValidLamp_any (f0_0, f0_1, f0_2) _ b_0).mono ?_
  rintro e w5 ⟨rfl, b5⟩
  have B5 := below_step B4 b5
  have p0_5 := p0_4.below b5
  go_wp2_with fail
  go_ret
  exact ⟨rfl, B5⟩

theorem longestBurn_walk (f0_0 f0_1 f0_2 : Int) (w : World) (b_0 : In64 f0_0 ∧ In64 f0_1 ∧ In64 f0_2) :
    Calls Try.prog 4 #[.agg #[.int .i64 f0_0, .int .i64 f0_1, .int .i64 f0_2]] w fun e w' => e = .returned (.bool true) ∧ Below w.heap.size w w' := by
  go_enter Try.func4, Try.ntmps4
  go_wp2_with fail
  have p0 : Own (w.alloc (.cells #[.int .i64 f0_0, .int .i64 f0_1, .int .i64 f0_2] 23)) w.heap.size 23 3 e3 (.slice (some ⟨w.heap.size, 0, none⟩) 1 1) [(f0_0, f0_1, f0_2)] := Own.lit w _ _ [(f0_0, f0_1, f0_2)] 1 (Nat.le_refl _) rfl (by simp [maxLen]) e3_len rfl
  have b1 := below_alloc w (.cells #[.int .i64 f0_0, .int .i64 f0_1, .int .i64 f0_2] 23)
  have B1 := below_step (Below.refl w.heap.size w) b1
  generalize w.alloc (.cells #[.int .i64 f0_0, .int .i64 f0_1, .int .i64 f0_2] 23) = w1 at p0 b1 B1 ⊢
  refine (toLamp_any (f0_0, f0_1, f0_2) _).mono ?_
  rintro e w2 ⟨rfl, b2⟩
  have B2 := below_step B1 b2
  have p0_2 := p0.below b2
  go_wp2_with fail
  refine (specLongestBurn_any (f0_0, f0_1, f0_2) _ b_0).mono ?_
  rintro e w3 ⟨rfl, b3⟩
  have B3 := below_step B2 b3
  have p0_3 := p0_2.below b3
  have kx := (p0_3.sl e3_len).get3 (i := 0) rfl
  obtain ⟨k3_0, k3_1, k3_2⟩ := kx
  go_wp2_with fail
  refine (toLamp_any (f0_0, f0_1, f0_2) _).mono ?_
  rintro e w4 ⟨rfl, b4⟩
  have B4 := below_step B3 b4
  have p0_4 := p0_3.below b4
  go_wp2_with fail
  refine (implLongestBurn_any (f0_0, f0_1, f0_2) _ b_0).mono ?_
  rintro e w5 ⟨rfl, b5⟩
  have B5 := below_step B4 b5
  have p0_5 := p0_4.below b5
  go_wp2_with fail
  go_ret
  exact ⟨rfl, B5⟩

theorem restAfter_walk (f0_0 f0_1 f0_2 : Int) (a1 : Int) (w : World) (b_0 : In64 f0_0 ∧ In64 f0_1 ∧ In64 f0_2) (b_1 : In64 a1) :
    Calls Try.prog 5 #[.agg #[.int .i64 f0_0, .int .i64 f0_1, .int .i64 f0_2], .int .i64 a1] w fun e w' => e = .returned (.bool true) ∧ Below w.heap.size w w' := by
  go_enter Try.func5, Try.ntmps5
  go_wp2_with fail
  have p0 : Own (w.alloc (.cells #[.int .i64 f0_0, .int .i64 f0_1, .int .i64 f0_2] 23)) w.heap.size 23 3 e3 (.slice (some ⟨w.heap.size, 0, none⟩) 1 1) [(f0_0, f0_1, f0_2)] := Own.lit w _ _ [(f0_0, f0_1, f0_2)] 1 (Nat.le_refl _) rfl (by simp [maxLen]) e3_len rfl
  have b1 := below_alloc w (.cells #[.int .i64 f0_0, .int .i64 f0_1, .int .i64 f0_2] 23)
  have B1 := below_step (Below.refl w.heap.size w) b1
  generalize w.alloc (.cells #[.int .i64 f0_0, .int .i64 f0_1, .int .i64 f0_2] 23) = w1 at p0 b1 B1 ⊢
  refine (toLamp_any (f0_0, f0_1, f0_2) _).mono ?_
  rintro e w2 ⟨rfl, b2⟩
  have B2 := below_step B1 b2
  have p0_2 := p0.below b2
  go_wp2_with fail
  refine (specRestAfter_any (f0_0, f0_1, f0_2) a1 _ b_0 b_1).mono ?_
  rintro e w3 ⟨rfl, b3⟩
  have B3 := below_step B2 b3
  have p0_3 := p0_2.below b3
  have kx := (p0_3.sl e3_len).get3 (i := 0) rfl
  obtain ⟨k3_0, k3_1, k3_2⟩ := kx
  go_wp2_with fail
  refine (toLamp_any (f0_0, f0_1, f0_2) _).mono ?_
  rintro e w4 ⟨rfl, b4⟩
  have B4 := below_step B3 b4
  have p0_4 := p0_3.below b4
  go_wp2_with fail
  refine (implRestAfter_any (f0_0, f0_1, f0_2) a1 _ b_0 b_1).mono ?_
  rintro e w5 ⟨rfl, b5⟩
  have B5 := below_step B4 b5
  have p0_5 := p0_4.below b5
  go_wp2_with fail
  go_ret
  exact ⟨rfl, B5⟩
end Go.Proofs.Ytphjojapbiikbaa
