/-
  The walks of the laws on cues: cues after shifts.
-/
import Derived.Test.YtgpcfjaopmhcmaaCuD
namespace Go.Proofs.Ytgpcfjaopmhcmaa
open Go.RowKit
set_option linter.unusedVariables false

theorem shiftCues_walk (A0 : Option Addr) (n0 c0 : Nat) (x0 : List (Int × Int × Int × Int)) (A1 : Option Addr) (n1 c1 : Nat) (x1 : List Int) (w : World) (_N0 : n0 ≤ maxLen) (S0 : Sl w 4 e4 A0 n0 x0) (_B0 : ∀ x ∈ x0, In64 x.1 ∧ In64 x.2.1 ∧ In64 x.2.2.1 ∧ In64 x.2.2.2) (_N1 : n1 ≤ maxLen) (S1 : Sl w 1 e1 A1 n1 x1) (_B1 : ∀ x ∈ x1, In64 x) :
    Calls Try.prog 4 #[.slice A0 n0 c0, .slice A1 n1 c1] w fun e w' => e = .returned (.bool true) ∧ Below w.heap.size w w' := by
  by_cases hl1 : (n1 : Int) ≤ 1048576
  · by_cases hl0 : (n0 : Int) ≤ 1048576
    · go_enter Try.func4, Try.ntmps4
      go_wp2_with fail
      refine (szCueS_yes A0 n0 c0 (1048576) _ (by omega) (by omega) hl0).mono ?_
      rintro e w' ⟨rfl, rfl⟩
      go_wp2_with fail
      refine (toCueS_any A0 n0 c0 x0 _ (S0.below (Below.refl w.heap.size w)) (by omega)).mono ?_
      rintro e w1 ⟨rfl, s0x, b1⟩
      have B1 := below_step (Below.refl w.heap.size w) b1
      go_wp2_with fail
      refine (toInt64S_any A1 n1 c1 x1 _ (S1.below B1) (by omega)).mono ?_
      rintro e w2 ⟨rfl, s1x, b2⟩
      have B2 := below_step B1 b2
      have s0x_2 := s0x.below b2
      go_wp2_with fail
      refine (specShiftCues_any _ n0 n0 x0 _ n1 n1 x1 _ (s0x_2.sl e4_len) (by omega) (s1x.sl e1_len) (by omega)).mono ?_
      rintro e w3 ⟨Awv, nwv, cwv, rfl, wv, b3⟩
      have B3 := below_step B2 b3
      have lwv : nwv ≤ 1048577 := by rw [← (wv.sl e4_len).1]; exact scVal_len _ _
      go_wp2_with fail
      refine (toCueS_any A0 n0 c0 x0 _ (S0.below B3) (by omega)).mono ?_
      rintro e w4 ⟨rfl, y0, b4⟩
      have B4 := below_step B3 b4
      have wv_4 := wv.below b4
      go_wp2_with fail
      refine (toInt64S_any A1 n1 c1 x1 _ (S1.below B4) (by omega)).mono ?_
      rintro e w5 ⟨rfl, y1, b5⟩
      have B5 := below_step B4 b5
      have wv_5 := wv_4.below b5
      have y0_5 := y0.below b5
      go_wp2_with fail
      refine (implShiftCues_any _ n0 n0 x0 _ n1 n1 x1 _ (y0_5.sl e4_len) (by omega) (y1.sl e1_len) (by omega)).mono ?_
      rintro e w6 ⟨Agv, ngv, cgv, rfl, gv, b6⟩
      have B6 := below_step B5 b6
      have wv_6 := wv_5.below b6
      have y0_6 := y0_5.below b6
      have y1_6 := y1.below b6
      have lgv : ngv ≤ 1048577 := by rw [← (gv.sl e4_len).1]; exact scVal_len _ _
      go_wp2_with fail
      refine (eqCueS_any _ _ _ _ _ _ _ _ _ (gv.sl e4_len) lgv (wv_6.sl e4_len) lwv).mono ?_
      rintro e w7 ⟨rfl, b7⟩
      have B7 := below_step B6 b7
      have wv_7 := wv_6.below b7
      have y0_7 := y0_6.below b7
      have y1_7 := y1_6.below b7
      have gv_7 := gv.below b7
      go_wp2_with fail
      refine (toCueS_any A0 n0 c0 x0 _ (S0.below B7) (by omega)).mono ?_
      rintro e w8 ⟨rfl, t0, b8⟩
      have B8 := below_step B7 b8
      have wv_8 := wv_7.below b8
      have y0_8 := y0_7.below b8
      have y1_8 := y1_7.below b8
      have gv_8 := gv_7.below b8
      go_wp2_with fail
      refine (eqCueS_any _ n0 n0 x0 _ n0 n0 x0 _ (y0_8.sl e4_len) (by omega) (t0.sl e4_len) (by omega)).mono ?_
      rintro e w9 ⟨rfl, b9⟩
      have B9 := below_step B8 b9
      have wv_9 := wv_8.below b9
      have y0_9 := y0_8.below b9
      have y1_9 := y1_8.below b9
      have gv_9 := gv_8.below b9
      go_wp2_with fail
      refine (toInt64S_any A1 n1 c1 x1 _ (S1.below B9) (by omega)).mono ?_
      rintro e w10 ⟨rfl, t1, b10⟩
      have B10 := below_step B9 b10
      have wv_10 := wv_9.below b10
      have y0_10 := y0_9.below b10
      have y1_10 := y1_9.below b10
      have gv_10 := gv_9.below b10
      go_wp2_with fail
      refine (eqInt64S_any _ n1 n1 x1 _ n1 n1 x1 _ (y1_10.sl e1_len) (by omega) (t1.sl e1_len) (by omega)).mono ?_
      rintro e w11 ⟨rfl, b11⟩
      have B11 := below_step B10 b11
      have wv_11 := wv_10.below b11
      have y0_11 := y0_10.below b11
      have y1_11 := y1_10.below b11
      have gv_11 := gv_10.below b11
      have Zwv : w.heap.size ≤ w2.heap.size := by have q1 := b1.size; have q2 := b2.size; have q3 := b3.size; have q4 := b4.size; have q5 := b5.size; have q6 := b6.size; have q7 := b7.size; have q8 := b8.size; have q9 := b9.size; have q10 := b10.size; have q11 := b11.size; omega
      have Zy0 : w.heap.size ≤ w3.heap.size := by have q1 := b1.size; have q2 := b2.size; have q3 := b3.size; have q4 := b4.size; have q5 := b5.size; have q6 := b6.size; have q7 := b7.size; have q8 := b8.size; have q9 := b9.size; have q10 := b10.size; have q11 := b11.size; omega
      have Zy1 : w.heap.size ≤ w4.heap.size := by have q1 := b1.size; have q2 := b2.size; have q3 := b3.size; have q4 := b4.size; have q5 := b5.size; have q6 := b6.size; have q7 := b7.size; have q8 := b8.size; have q9 := b9.size; have q10 := b10.size; have q11 := b11.size; omega
      have Zgv : w.heap.size ≤ w5.heap.size := by have q1 := b1.size; have q2 := b2.size; have q3 := b3.size; have q4 := b4.size; have q5 := b5.size; have q6 := b6.size; have q7 := b7.size; have q8 := b8.size; have q9 := b9.size; have q10 := b10.size; have q11 := b11.size; omega
      have Xwvy0 := Own.ap wv y0 (by have q1 := b1.size; have q2 := b2.size; have q3 := b3.size; have q4 := b4.size; have q5 := b5.size; have q6 := b6.size; have q7 := b7.size; have q8 := b8.size; have q9 := b9.size; have q10 := b10.size; have q11 := b11.size; omega)
      have Xwvy1 := Own.ap wv y1 (by have q1 := b1.size; have q2 := b2.size; have q3 := b3.size; have q4 := b4.size; have q5 := b5.size; have q6 := b6.size; have q7 := b7.size; have q8 := b8.size; have q9 := b9.size; have q10 := b10.size; have q11 := b11.size; omega)
      have Xwvgv := Own.ap wv gv (by have q1 := b1.size; have q2 := b2.size; have q3 := b3.size; have q4 := b4.size; have q5 := b5.size; have q6 := b6.size; have q7 := b7.size; have q8 := b8.size; have q9 := b9.size; have q10 := b10.size; have q11 := b11.size; omega)
      have Xy0y1 := Own.ap y0 y1 (by have q1 := b1.size; have q2 := b2.size; have q3 := b3.size; have q4 := b4.size; have q5 := b5.size; have q6 := b6.size; have q7 := b7.size; have q8 := b8.size; have q9 := b9.size; have q10 := b10.size; have q11 := b11.size; omega)
      have Xy0gv := Own.ap y0 gv (by have q1 := b1.size; have q2 := b2.size; have q3 := b3.size; have q4 := b4.size; have q5 := b5.size; have q6 := b6.size; have q7 := b7.size; have q8 := b8.size; have q9 := b9.size; have q10 := b10.size; have q11 := b11.size; omega)
      have Xy1gv := Own.ap y1 gv (by have q1 := b1.size; have q2 := b2.size; have q3 := b3.size; have q4 := b4.size; have q5 := b5.size; have q6 := b6.size; have q7 := b7.size; have q8 := b8.size; have q9 := b9.size; have q10 := b10.size; have q11 := b11.size; omega)
      go_wp2_with fail
      refine (markCueS_any _ _ _ _ (1) _ _ y0_11 (by omega) (by omega) (by omega)).mono ?_
      rintro e w12 ⟨rfl, y0m, g12⟩
      have B12 := B11.grown g12 B11.size (fun q hq => by have := (y0_11.lt q hq).1; have := Zy0; omega)
      have wv_12 := wv_11.grown g12 Xwvy0
      have y1_12 := y1_11.grown g12 (ap_sym Xy0y1)
      have gv_12 := gv_11.grown g12 (ap_sym Xy0gv)
      go_wp2_with fail
      refine (markInt64S_any _ _ _ _ (1 + n0 * 4) _ _ y1_12 (by omega) (by omega) (by omega)).mono ?_
      rintro e w13 ⟨rfl, y1m, g13⟩
      have B13 := B12.grown g13 B12.size (fun q hq => by have := (y1_12.lt q hq).1; have := Zy1; omega)
      have wv_13 := wv_12.grown g13 Xwvy1
      have y0_13 := y0m.grown g13 Xy0y1
      have gv_13 := gv_12.grown g13 (ap_sym Xy1gv)
      go_wp2_with fail
      refine (eqCueS_any _ _ _ _ _ _ _ _ _ (gv_13.sl e4_len) lgv (wv_13.sl e4_len) lwv).mono ?_
      rintro e w14 ⟨rfl, b14⟩
      have B14 := below_step B13 b14
      have wv_14 := wv_13.below b14
      have y0_14 := y0_13.below b14
      have y1_14 := y1m.below b14
      have gv_14 := gv_13.below b14
      go_wp2_with fail
      refine (markCueS_any _ _ _ _ (1) _ _ gv_14 (by omega) (by omega) (by omega)).mono ?_
      rintro e w15 ⟨rfl, gvm, g15⟩
      have B15 := B14.grown g15 B14.size (fun q hq => by have := (gv_14.lt q hq).1; have := Zgv; omega)
      have wv_15 := wv_14.grown g15 Xwvgv
      go_wp2_with fail
      refine (heldCueS_any _ _ _ (1) _ (gvm.sl e4_len) lgv (by omega) (by omega)).mono ?_
      rintro e w' ⟨rfl, rfl⟩
      go_wp2_with fail
      refine (toCueS_any A0 n0 c0 x0 _ (S0.below B15) (by omega)).mono ?_
      rintro e w16 ⟨rfl, z0, b16⟩
      have B16 := below_step B15 b16
      have wv_16 := wv_15.below b16
      have gv_16 := gvm.below b16
      go_wp2_with fail
      refine (toInt64S_any A1 n1 c1 x1 _ (S1.below B16) (by omega)).mono ?_
      rintro e w17 ⟨rfl, z1, b17⟩
      have B17 := below_step B16 b17
      have wv_17 := wv_16.below b17
      have gv_17 := gv_16.below b17
      have z0_17 := z0.below b17
      go_wp2_with fail
      refine (implShiftCues_any _ n0 n0 x0 _ n1 n1 x1 _ (z0_17.sl e4_len) (by omega) (z1.sl e1_len) (by omega)).mono ?_
      rintro e w18 ⟨Ahv, nhv, chv, rfl, hv, b18⟩
      have B18 := below_step B17 b18
      have wv_18 := wv_17.below b18
      have gv_18 := gv_17.below b18
      have z0_18 := z0_17.below b18
      have z1_18 := z1.below b18
      have lhv : nhv ≤ 1048577 := by rw [← (hv.sl e4_len).1]; exact scVal_len _ _
      go_wp2_with fail
      refine (eqCueS_any _ _ _ _ _ _ _ _ _ (hv.sl e4_len) lhv (wv_18.sl e4_len) lwv).mono ?_
      rintro e w19 ⟨rfl, b19⟩
      have B19 := below_step B18 b19
      have wv_19 := wv_18.below b19
      have gv_19 := gv_18.below b19
      have z0_19 := z0_18.below b19
      have z1_19 := z1_18.below b19
      have hv_19 := hv.below b19
      go_wp2_with fail
      refine (heldCueS_any _ _ _ (1) _ (gv_19.sl e4_len) lgv (by omega) (by omega)).mono ?_
      rintro e w' ⟨rfl, rfl⟩
      go_wp2_with fail
      go_ret
      exact ⟨rfl, B19⟩
    · go_enter Try.func4, Try.ntmps4
      go_wp2_with fail
      refine (szCueS_no A0 n0 c0 (1048576) _ (by omega) (by omega) (by omega) _N0).mono ?_
      rintro e w' ⟨rfl, rfl⟩
      go_wp2_with fail
      go_ret
      exact ⟨rfl, Below.refl _ _⟩
  · go_enter Try.func4, Try.ntmps4
    go_wp2_with fail
    go_ret
    exact ⟨rfl, Below.refl _ _⟩
end Go.Proofs.Ytgpcfjaopmhcmaa
