/-
  The walks of the laws on frames: validity, equality.
-/
import Derived.Test.YtkjdinhbfoghnaaFrA
namespace Go.Proofs.Ytkjdinhbfoghnaa
open Go.RowKit

theorem validFrames_walk (A : Option Addr) (n c : Nat) (xs : List (Int × Int)) (w : World) (hn : n ≤ maxLen) (h : Sl w 2 e2 A n xs) (_hb : ∀ x ∈ xs, In64 x.1 ∧ In64 x.2) :
    Calls Try.prog 4 #[.slice A n c] w fun e w' => e = .returned (.bool true) ∧ Below w.heap.size w w' := by
  by_cases hlt : (n : Int) ≤ 1048576
  · go_enter Try.func4, Try.ntmps4
    go_wp2_with fail
    refine (szFrameS_yes A n c 1048576 _ (by omega) (by omega) hlt).mono ?_
    rintro e w' ⟨rfl, rfl⟩
    go_wp2_with fail
    refine (toFrameS_any A n c xs _ h (by omega)).mono ?_
    rintro e w1 ⟨rfl, o1, b1⟩
    go_wp2_with fail
    refine (specValidFrames_any _ n n xs _ (o1.sl e2_len) (by omega)).mono ?_
    rintro e w' ⟨rfl, rfl⟩
    go_wp2_with fail
    refine (toFrameS_any A n c xs _ (h.below b1) (by omega)).mono ?_
    rintro e w2 ⟨rfl, o2, b2⟩
    have B2 := below_step b1 b2
    go_wp2_with fail
    refine (ValidFrames_any _ n n xs _ (o2.sl e2_len) (by omega)).mono ?_
    rintro e w3 ⟨rfl, b3⟩
    have B3 := below_step B2 b3
    have s3 := (o2.sl e2_len).below b3
    go_wp2_with fail
    refine (toFrameS_any A n c xs _ (h.below B3) (by omega)).mono ?_
    rintro e w4 ⟨rfl, o4, b4⟩
    have B4 := below_step B3 b4
    have s4 := s3.below b4
    go_wp2_with fail
    refine (eqFrameS_any _ _ n n n n xs xs _ s4 (o4.sl e2_len) (by omega) (by omega)).mono ?_
    rintro e w5 ⟨rfl, b5⟩
    have B5 := below_step B4 b5
    go_wp2_with fail
    go_ret
    exact ⟨rfl, B5⟩
  · go_enter Try.func4, Try.ntmps4
    go_wp2_with fail
    refine (szFrameS_no A n c 1048576 _ (by omega) (by omega) (by omega) hn).mono ?_
    rintro e w' ⟨rfl, rfl⟩
    go_wp2_with fail
    go_ret
    exact ⟨rfl, Below.refl _ _⟩
end Go.Proofs.Ytkjdinhbfoghnaa
