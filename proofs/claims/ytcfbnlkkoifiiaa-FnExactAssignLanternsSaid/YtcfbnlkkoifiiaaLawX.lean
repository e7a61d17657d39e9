/-
  The walk of the law on the lanterns of slides.
-/
import Derived.Test.YtcfbnlkkoifiiaaAsE
import Derived.Test.YtcfbnlkkoifiiaaAsG
namespace Go.Proofs.Ytcfbnlkkoifiiaa
open Go.RowKit
set_option linter.unusedVariables false

theorem assignLanterns_walk (A0 : Option Addr) (n0 c0 : Nat) (x0 : List (Int × Int × Int)) (w : World) (_N0 : n0 ≤ maxLen) (S0 : Sl w 3 e3 A0 n0 x0) (_B0 : ∀ x ∈ x0, In64 x.1 ∧ In64 x.2.1 ∧ In64 x.2.2) :
    Calls Try.prog 3 #[.slice A0 n0 c0] w fun e w' => e = .returned (.bool true) ∧ Below w.heap.size w w' := by
  by_cases hl0 : (n0 : Int) ≤ 1048576
  · go_enter Try.func3, Try.ntmps3
    go_wp2_with fail
    refine (szShownS_yes A0 n0 c0 (1048576) _ (by omega) (by omega) hl0).mono ?_
    rintro e w' ⟨rfl, rfl⟩
    go_wp2_with fail
    refine (toShownS_any A0 n0 c0 x0 _ (S0.below (Below.refl w.heap.size w)) (by omega)).mono ?_
    rintro e w1 ⟨rfl, s0x, b1⟩
    have B1 := below_step (Below.refl w.heap.size w) b1
    go_wp2_with fail
    refine (specAssignLanterns_any _ n0 n0 x0 _ (s0x.sl e3_len) (by omega)).mono ?_
    rintro e w2 ⟨Awv, nwv, cwv, rfl, wv, b2⟩
    have B2 := below_step B1 b2
    have lwv : nwv ≤ 1048577 := by rw [← (wv.sl e1_len).1]; exact alVal_len _
    go_wp2_with fail
    refine (toShownS_any A0 n0 c0 x0 _ (S0.below B2) (by omega)).mono ?_
    rintro e w3 ⟨rfl, y0, b3⟩
    have B3 := below_step B2 b3
    have wv_3 := wv.below b3
    go_wp2_with fail
    refine (implAssignLanterns_any _ n0 n0 x0 _ (y0.sl e3_len) (by omega)).mono ?_
    rintro e w4 ⟨Agv, ngv, cgv, rfl, gv, b4⟩
    have B4 := below_step B3 b4
    have wv_4 := wv_3.below b4
    have y0_4 := y0.below b4
    have lgv : ngv ≤ 1048577 := by rw [← (gv.sl e1_len).1]; exact alVal_len _
    go_wp2_with fail
    refine (eqInt64S_any _ _ _ _ _ _ _ _ _ (gv.sl e1_len) lgv (wv_4.sl e1_len) lwv).mono ?_
    rintro e w5 ⟨rfl, b5⟩
    have B5 := below_step B4 b5
    have wv_5 := wv_4.below b5
    have y0_5 := y0_4.below b5
    have gv_5 := gv.below b5
    go_wp2_with fail
    refine (toShownS_any A0 n0 c0 x0 _ (S0.below B5) (by omega)).mono ?_
    rintro e w6 ⟨rfl, t0, b6⟩
    have B6 := below_step B5 b6
    have wv_6 := wv_5.below b6
    have y0_6 := y0_5.below b6
    have gv_6 := gv_5.below b6
    go_wp2_with fail
    refine (eqShownS_any _ n0 n0 x0 _ n0 n0 x0 _ (y0_6.sl e3_len) (by omega) (t0.sl e3_len) (by omega)).mono ?_
    rintro e w7 ⟨rfl, b7⟩
    have B7 := below_step B6 b7
    have wv_7 := wv_6.below b7
    have y0_7 := y0_6.below b7
    have gv_7 := gv_6.below b7
    have Zwv : w.heap.size ≤ w1.heap.size := by have q1 := b1.size; have q2 := b2.size; have q3 := b3.size; have q4 := b4.size; have q5 := b5.size; have q6 := b6.size; have q7 := b7.size; omega
    have Zy0 : w.heap.size ≤ w2.heap.size := by have q1 := b1.size; have q2 := b2.size; have q3 := b3.size; have q4 := b4.size; have q5 := b5.size; have q6 := b6.size; have q7 := b7.size; omega
    have Zgv : w.heap.size ≤ w3.heap.size := by have q1 := b1.size; have q2 := b2.size; have q3 := b3.size; have q4 := b4.size; have q5 := b5.size; have q6 := b6.size; have q7 := b7.size; omega
    have Xwvy0 := Own.ap wv y0 (by have q1 := b1.size; have q2 := b2.size; have q3 := b3.size; have q4 := b4.size; have q5 := b5.size; have q6 := b6.size; have q7 := b7.size; omega)
    have Xwvgv := Own.ap wv gv (by have q1 := b1.size; have q2 := b2.size; have q3 := b3.size; have q4 := b4.size; have q5 := b5.size; have q6 := b6.size; have q7 := b7.size; omega)
    have Xy0gv := Own.ap y0 gv (by have q1 := b1.size; have q2 := b2.size; have q3 := b3.size; have q4 := b4.size; have q5 := b5.size; have q6 := b6.size; have q7 := b7.size; omega)
    go_wp2_with fail
    refine (markShownS_any _ _ _ _ (1) _ _ y0_7 (by omega) (by omega) (by omega)).mono ?_
    rintro e w8 ⟨rfl, y0m, g8⟩
    have B8 := B7.grown g8 B7.size (fun q hq => by have := (y0_7.lt q hq).1; have := Zy0; omega)
    have wv_8 := wv_7.grown g8 Xwvy0
    have gv_8 := gv_7.grown g8 (ap_sym Xy0gv)
    go_wp2_with fail
    refine (eqInt64S_any _ _ _ _ _ _ _ _ _ (gv_8.sl e1_len) lgv (wv_8.sl e1_len) lwv).mono ?_
    rintro e w9 ⟨rfl, b9⟩
    have B9 := below_step B8 b9
    have wv_9 := wv_8.below b9
    have y0_9 := y0m.below b9
    have gv_9 := gv_8.below b9
    go_wp2_with fail
    refine (markInt64S_any _ _ _ _ (1) _ _ gv_9 (by omega) (by omega) (by omega)).mono ?_
    rintro e w10 ⟨rfl, gvm, g10⟩
    have B10 := B9.grown g10 B9.size (fun q hq => by have := (gv_9.lt q hq).1; have := Zgv; omega)
    have wv_10 := wv_9.grown g10 Xwvgv
    go_wp2_with fail
    refine (heldInt64S_any _ _ _ (1) _ (gvm.sl e1_len) lgv (by omega) (by omega)).mono ?_
    rintro e w' ⟨rfl, rfl⟩
    go_wp2_with fail
    refine (toShownS_any A0 n0 c0 x0 _ (S0.below B10) (by omega)).mono ?_
    rintro e w11 ⟨rfl, z0, b11⟩
    have B11 := below_step B10 b11
    have wv_11 := wv_10.below b11
    have gv_11 := gvm.below b11
    go_wp2_with fail
    refine (implAssignLanterns_any _ n0 n0 x0 _ (z0.sl e3_len) (by omega)).mono ?_
    rintro e w12 ⟨Ahv, nhv, chv, rfl, hv, b12⟩
    have B12 := below_step B11 b12
    have wv_12 := wv_11.below b12
    have gv_12 := gv_11.below b12
    have z0_12 := z0.below b12
    have lhv : nhv ≤ 1048577 := by rw [← (hv.sl e1_len).1]; exact alVal_len _
    go_wp2_with fail
    refine (eqInt64S_any _ _ _ _ _ _ _ _ _ (hv.sl e1_len) lhv (wv_12.sl e1_len) lwv).mono ?_
    rintro e w13 ⟨rfl, b13⟩
    have B13 := below_step B12 b13
    have wv_13 := wv_12.below b13
    have gv_13 := gv_12.below b13
    have z0_13 := z0_12.below b13
    have hv_13 := hv.below b13
    go_wp2_with fail
    refine (heldInt64S_any _ _ _ (1) _ (gv_13.sl e1_len) lgv (by omega) (by omega)).mono ?_
    rintro e w' ⟨rfl, rfl⟩
    go_wp2_with fail
    go_ret
    exact ⟨rfl, B13⟩
  · go_enter Try.func3, Try.ntmps3
    go_wp2_with fail
    refine (szShownS_no A0 n0 c0 (1048576) _ (by omega) (by omega) (by omega) _N0).mono ?_
    rintro e w' ⟨rfl, rfl⟩
    go_wp2_with fail
    go_ret
    exact ⟨rfl, Below.refl _ _⟩
end Go.Proofs.Ytcfbnlkkoifiiaa
