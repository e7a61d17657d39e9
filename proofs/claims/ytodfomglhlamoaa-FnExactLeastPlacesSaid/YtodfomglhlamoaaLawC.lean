/-
  The walks of the laws on showings: the best plan.
-/
import Derived.Test.YtodfomglhlamoaaLdG
namespace Go.Proofs.Ytodfomglhlamoaa
open Go.RowKit
set_option linter.unusedVariables false

theorem bestLoading_walk (s0 : ByteArray) (a1 : Int) (w : World) (_b0 : s0.size ≤ maxLen) (b_1 : In64 a1) :
    Calls Try.prog 10 #[.string s0, .int .i64 a1] w fun e w' => e = .returned (.bool true) ∧ Below w.heap.size w w' := by
  by_cases hl0 : (s0.size : Int) ≤ 1048576
  · go_enter Try.func10, Try.ntmps10
    go_wp2_with fail
    refine (specBestLoading_any s0 a1 _ (by omega) b_1).mono ?_
    rintro e w1 ⟨Awv, nwv, cwv, rfl, wv, b1⟩
    have B1 := below_step (Below.refl w.heap.size w) b1
    have lwv : nwv ≤ 1048577 := by rw [← (wv.sl e1_len).1]; exact blVal_len (by rw [lenB]; omega)
    go_wp2_with fail
    refine (implBestLoading_any s0 a1 _ (by omega) b_1).mono ?_
    rintro e w2 ⟨Agv, ngv, cgv, rfl, gv, b2⟩
    have B2 := below_step B1 b2
    have wv_2 := wv.below b2
    have lgv : ngv ≤ 1048577 := by rw [← (gv.sl e1_len).1]; exact blVal_len (by rw [lenB]; omega)
    go_wp2_with fail
    refine (eqInt64S_any _ _ _ _ _ _ _ _ _ (gv.sl e1_len) lgv (wv_2.sl e1_len) lwv).mono ?_
    rintro e w3 ⟨rfl, b3⟩
    have B3 := below_step B2 b3
    have wv_3 := wv_2.below b3
    have gv_3 := gv.below b3
    have Zwv : w.heap.size ≤ w.heap.size := by have q1 := b1.size; have q2 := b2.size; have q3 := b3.size; omega
    have Zgv : w.heap.size ≤ w1.heap.size := by have q1 := b1.size; have q2 := b2.size; have q3 := b3.size; omega
    have Xwvgv := Own.ap wv gv (by have q1 := b1.size; have q2 := b2.size; have q3 := b3.size; omega)
    go_wp2_with fail
    refine (markInt64S_any _ _ _ _ (1) _ _ gv_3 (by omega) (by omega) (by omega)).mono ?_
    rintro e w4 ⟨rfl, gvm, g4⟩
    have B4 := B3.grown g4 B3.size (fun q hq => by have := (gv_3.lt q hq).1; have := Zgv; omega)
    have wv_4 := wv_3.grown g4 Xwvgv
    go_wp2_with fail
    refine (heldInt64S_any _ _ _ (1) _ (gvm.sl e1_len) lgv (by omega) (by omega)).mono ?_
    rintro e w' ⟨rfl, rfl⟩
    go_wp2_with fail
    refine (implBestLoading_any s0 a1 _ (by omega) b_1).mono ?_
    rintro e w5 ⟨Ahv, nhv, chv, rfl, hv, b5⟩
    have B5 := below_step B4 b5
    have wv_5 := wv_4.below b5
    have gv_5 := gvm.below b5
    have lhv : nhv ≤ 1048577 := by rw [← (hv.sl e1_len).1]; exact blVal_len (by rw [lenB]; omega)
    go_wp2_with fail
    refine (eqInt64S_any _ _ _ _ _ _ _ _ _ (hv.sl e1_len) lhv (wv_5.sl e1_len) lwv).mono ?_
    rintro e w6 ⟨rfl, b6⟩
    have B6 := below_step B5 b6
    have wv_6 := wv_5.below b6
    have gv_6 := gv_5.below b6
    have hv_6 := hv.below b6
    go_wp2_with fail
    refine (heldInt64S_any _ _ _ (1) _ (gv_6.sl e1_len) lgv (by omega) (by omega)).mono ?_
    rintro e w' ⟨rfl, rfl⟩
    go_wp2_with fail
    go_ret
    exact ⟨rfl, B6⟩
  · go_enter Try.func10, Try.ntmps10
    go_wp2_with fail
    go_ret
    exact ⟨rfl, Below.refl _ _⟩

theorem fewestLoads_walk (s0 : ByteArray) (a1 : Int) (w : World) (_b0 : s0.size ≤ maxLen) (b_1 : In64 a1) :
    Calls Try.prog 9 #[.string s0, .int .i64 a1] w fun e w' => e = .returned (.bool true) ∧ Below w.heap.size w w' := by
  by_cases hl0 : (s0.size : Int) ≤ 1048576
  · go_enter Try.func9, Try.ntmps9
    go_wp2_with fail
    refine (specFewestLoads_any s0 a1 _ (by omega) b_1).mono ?_
    rintro e w1 ⟨rfl, b1⟩
    have B1 := below_step (Below.refl w.heap.size w) b1
    go_wp2_with fail
    refine (implFewestLoads_any s0 a1 _ (by omega) b_1).mono ?_
    rintro e w2 ⟨rfl, b2⟩
    have B2 := below_step B1 b2
    go_wp2_with fail
    go_ret
    exact ⟨rfl, B2⟩
  · go_enter Try.func9, Try.ntmps9
    go_wp2_with fail
    go_ret
    exact ⟨rfl, Below.refl _ _⟩

theorem leastPlaces_walk (s0 : ByteArray) (a1 : Int) (w : World) (_b0 : s0.size ≤ maxLen) (b_1 : In64 a1) :
    Calls Try.prog 8 #[.string s0, .int .i64 a1] w fun e w' => e = .returned (.bool true) ∧ Below w.heap.size w w' := by
  by_cases hl0 : (s0.size : Int) ≤ 1048576
  · go_enter Try.func8, Try.ntmps8
    go_wp2_with fail
    refine (specLeastPlaces_any s0 a1 _ (by omega) b_1).mono ?_
    rintro e w1 ⟨rfl, b1⟩
    have B1 := below_step (Below.refl w.heap.size w) b1
    go_wp2_with fail
    refine (implLeastPlaces_any s0 a1 _ (by omega) b_1).mono ?_
    rintro e w2 ⟨rfl, b2⟩
    have B2 := below_step B1 b2
    go_wp2_with fail
    go_ret
    exact ⟨rfl, B2⟩
  · go_enter Try.func8, Try.ntmps8
    go_wp2_with fail
    go_ret
    exact ⟨rfl, Below.refl _ _⟩
end Go.Proofs.Ytodfomglhlamoaa
