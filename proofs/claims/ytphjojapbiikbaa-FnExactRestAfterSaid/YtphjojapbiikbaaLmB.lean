/-
  Contracts of the functions on lamps: the rest.
-/
import Derived.Test.YtphjojapbiikbaaLmA
namespace Go.Proofs.Ytphjojapbiikbaa
open Go.RowKit

theorem specRestAfter_any (x : Int × Int × Int) (b : Int) (w : World) (hx : In64 x.1 ∧ In64 x.2.1 ∧ In64 x.2.2) (_hb : In64 b) :
    Calls Try.prog 12 #[.agg #[.int .i64 x.1, .int .i64 x.2.1, .int .i64 x.2.2], .int .i64 b] w fun e w' => e = .returned (.tuple #[.int .i64 (restVal x b), .int .i64 (restCode x b)]) ∧ Below w.heap.size w w' := by
  cases hok : lampOk x
  · have H1 : Hid (restCode x b = 1) := by rw [Hid, restCode]; simp [hok]
    go_enter Try.func12, Try.ntmps12
    go_wp2_with fail
    refine (l21Ok_any x _ hx).mono ?_
    rintro e w2 ⟨rfl, hb2⟩
    go_wp2_with fail
    go_ret2
    exact ⟨ret2 (by rw [restVal, if_neg (by rw [H1.out]; decide)]) H1.out.symm, below_step (below_alloc _ _) hb2⟩
  · have ok := lampOk_iff.1 hok
    cases hin : inB b 0 100
    · have H1 : Hid (restCode x b = 2) := by rw [Hid, restCode]; simp [hok, hin]
      go_enter Try.func12, Try.ntmps12
      go_wp2_with fail
      refine (l21Ok_any x _ hx).mono ?_
      rintro e w2 ⟨rfl, hb2⟩
      go_wp2_with fail
      refine (l00In_any _ _ _ _).mono ?_
      rintro e w3 ⟨rfl, rfl⟩
      go_wp2_with fail
      go_ret2
      exact ⟨ret2 (by rw [restVal, if_neg (by rw [H1.out]; decide)]) H1.out.symm, below_step (below_alloc _ _) hb2⟩
    · have hbb := inB_true.1 hin
      have q0 : 0 ≤ x.2.2 / x.1 := Int.ediv_nonneg (by omega) (by omega)
      have q1 : x.2.2 / x.1 ≤ 100 := Int.le_trans (Int.ediv_le_self _ (by omega)) (by omega)
      have m0 : 0 ≤ b * x.1 := Int.mul_nonneg (by omega) (by omega)
      have m1 : b * x.1 ≤ 100 * 20 := Int.mul_le_mul (by omega) (by omega) (by omega) (by omega)
      have d0 : 0 ≤ (b * x.1 + x.2.1 - 1) / x.2.1 := Int.ediv_nonneg (by omega) (by omega)
      have d1 : (b * x.1 + x.2.1 - 1) / x.2.1 ≤ 3000 := Int.le_trans (Int.ediv_le_self _ (by omega)) (by omega)
      by_cases hq : x.2.2 / x.1 < b
      · have H1 : Hid (restCode x b = 6) := by rw [Hid, restCode]; simp [hok, hin, hq]
        go_enter Try.func12, Try.ntmps12
        go_wp2_with fail
        have hown : Own (w.alloc (.cells #[.int .i64 x.1, .int .i64 x.2.1, .int .i64 x.2.2] 25)) w.heap.size 25 3 e3 (.slice (some ⟨w.heap.size, 0, none⟩) 1 1) [x] := Own.lit w _ _ [x] 1 (Nat.le_refl _) rfl (by simp [maxLen]) e3_len rfl
        refine (l21Ok_any x _ hx).mono ?_
        rintro e w2 ⟨rfl, hb2⟩
        obtain ⟨c0, c1, c2⟩ := ((hown.below hb2).sl e3_len).get3 (i := 0) rfl
        go_wp2_with fail
        refine (l00In_any _ _ _ _).mono ?_
        rintro e w3 ⟨rfl, rfl⟩
        go_wp2_with fail
        go_ret2
        exact ⟨ret2 (by rw [restVal, if_neg (by rw [H1.out]; decide)]) H1.out.symm, below_step (below_alloc _ _) hb2⟩
      · have H1 : Hid (restCode x b = 0) := by rw [Hid, restCode]; simp [hok, hin, hq]
        go_enter Try.func12, Try.ntmps12
        go_wp2_with fail
        have hown : Own (w.alloc (.cells #[.int .i64 x.1, .int .i64 x.2.1, .int .i64 x.2.2] 25)) w.heap.size 25 3 e3 (.slice (some ⟨w.heap.size, 0, none⟩) 1 1) [x] := Own.lit w _ _ [x] 1 (Nat.le_refl _) rfl (by simp [maxLen]) e3_len rfl
        refine (l21Ok_any x _ hx).mono ?_
        rintro e w2 ⟨rfl, hb2⟩
        obtain ⟨c0, c1, c2⟩ := ((hown.below hb2).sl e3_len).get3 (i := 0) rfl
        go_wp2_with fail
        refine (l00In_any _ _ _ _).mono ?_
        rintro e w3 ⟨rfl, rfl⟩
        go_wp2_with fail
        go_ret2
        exact ⟨ret2 (by rw [restVal, if_pos H1.out]; try go_num) H1.out.symm, below_step (below_alloc _ _) hb2⟩
theorem implRestAfter_any (x : Int × Int × Int) (b : Int) (w : World) (hx : In64 x.1 ∧ In64 x.2.1 ∧ In64 x.2.2) (_hb : In64 b) :
    Calls Try.prog 13 #[.agg #[.int .i64 x.1, .int .i64 x.2.1, .int .i64 x.2.2], .int .i64 b] w fun e w' => e = .returned (.tuple #[.int .i64 (restVal x b), .int .i64 (restCode x b)]) ∧ Below w.heap.size w w' := by
  cases hok : lampOk x
  · have H1 : Hid (restCode x b = 1) := by rw [Hid, restCode]; simp [hok]
    go_enter Try.func13, Try.ntmps13
    go_wp2_with fail
    refine (implValidLamp_any x _ hx).mono ?_
    rintro e w2 ⟨rfl, hb2⟩
    go_wp2_with fail
    go_ret2
    exact ⟨ret2 (by rw [restVal, if_neg (by rw [H1.out]; decide)]) H1.out.symm, below_step (below_alloc _ _) hb2⟩
  · have ok := lampOk_iff.1 hok
    cases hin : inB b 0 100
    · have H1 : Hid (restCode x b = 2) := by rw [Hid, restCode]; simp [hok, hin]
      go_enter Try.func13, Try.ntmps13
      go_wp2_with fail
      refine (implValidLamp_any x _ hx).mono ?_
      rintro e w2 ⟨rfl, hb2⟩
      go_wp2_with fail
      refine (within_any _ _ _ _).mono ?_
      rintro e w3 ⟨rfl, rfl⟩
      go_wp2_with fail
      go_ret2
      exact ⟨ret2 (by rw [restVal, if_neg (by rw [H1.out]; decide)]) H1.out.symm, below_step (below_alloc _ _) hb2⟩
    · have hbb := inB_true.1 hin
      have q0 : 0 ≤ x.2.2 / x.1 := Int.ediv_nonneg (by omega) (by omega)
      have q1 : x.2.2 / x.1 ≤ 100 := Int.le_trans (Int.ediv_le_self _ (by omega)) (by omega)
      have m0 : 0 ≤ b * x.1 := Int.mul_nonneg (by omega) (by omega)
      have m1 : b * x.1 ≤ 100 * 20 := Int.mul_le_mul (by omega) (by omega) (by omega) (by omega)
      have d0 : 0 ≤ (b * x.1 + x.2.1 - 1) / x.2.1 := Int.ediv_nonneg (by omega) (by omega)
      have d1 : (b * x.1 + x.2.1 - 1) / x.2.1 ≤ 3000 := Int.le_trans (Int.ediv_le_self _ (by omega)) (by omega)
      by_cases hq : x.2.2 / x.1 < b
      · have H1 : Hid (restCode x b = 6) := by rw [Hid, restCode]; simp [hok, hin, hq]
        go_enter Try.func13, Try.ntmps13
        go_wp2_with fail
        have hown : Own (w.alloc (.cells #[.int .i64 x.1, .int .i64 x.2.1, .int .i64 x.2.2] 25)) w.heap.size 25 3 e3 (.slice (some ⟨w.heap.size, 0, none⟩) 1 1) [x] := Own.lit w _ _ [x] 1 (Nat.le_refl _) rfl (by simp [maxLen]) e3_len rfl
        refine (implValidLamp_any x _ hx).mono ?_
        rintro e w2 ⟨rfl, hb2⟩
        obtain ⟨c0, c1, c2⟩ := ((hown.below hb2).sl e3_len).get3 (i := 0) rfl
        go_wp2_with fail
        refine (within_any _ _ _ _).mono ?_
        rintro e w3 ⟨rfl, rfl⟩
        go_wp2_with fail
        go_ret2
        exact ⟨ret2 (by rw [restVal, if_neg (by rw [H1.out]; decide)]) H1.out.symm, below_step (below_alloc _ _) hb2⟩
      · have H1 : Hid (restCode x b = 0) := by rw [Hid, restCode]; simp [hok, hin, hq]
        go_enter Try.func13, Try.ntmps13
        go_wp2_with fail
        have hown : Own (w.alloc (.cells #[.int .i64 x.1, .int .i64 x.2.1, .int .i64 x.2.2] 25)) w.heap.size 25 3 e3 (.slice (some ⟨w.heap.size, 0, none⟩) 1 1) [x] := Own.lit w _ _ [x] 1 (Nat.le_refl _) rfl (by simp [maxLen]) e3_len rfl
        refine (implValidLamp_any x _ hx).mono ?_
        rintro e w2 ⟨rfl, hb2⟩
        obtain ⟨c0, c1, c2⟩ := ((hown.below hb2).sl e3_len).get3 (i := 0) rfl
        go_wp2_with fail
        refine (within_any _ _ _ _).mono ?_
        rintro e w3 ⟨rfl, rfl⟩
        go_wp2_with fail
        go_ret2
        exact ⟨ret2 (by rw [restVal, if_pos H1.out]; try go_num) H1.out.symm, below_step (below_alloc _ _) hb2⟩
end Go.Proofs.Ytphjojapbiikbaa
