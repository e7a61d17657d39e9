/-
  Contracts of the functions on lamps.
-/
import Derived.Test.YtphjojapbiikbaaBase
import Derived.Test.YtphjojapbiikbaaLm
namespace Go.Proofs.Ytphjojapbiikbaa
open Go.RowKit

theorem toLamp_any (x : Int × Int × Int) (w : World) :
    Calls Try.prog 8 #[.agg #[.int .i64 x.1, .int .i64 x.2.1, .int .i64 x.2.2]] w fun e w' => e = .returned (.agg #[.int .i64 x.1, .int .i64 x.2.1, .int .i64 x.2.2]) ∧ Below w.heap.size w w' := by
  go_enter Try.func8, Try.ntmps8
  go_wp2
  exact bodyPost_ret (v := .agg #[.int .i64 x.1, .int .i64 x.2.1, .int .i64 x.2.2]) (by simp [results, Try.results8, go_sem]) rfl ⟨rfl, ((((Below.refl _ _).alloc (by simp) _).alloc (by simp) _).alloc (by simp <;> omega) _)⟩

theorem l21Ok_any (x : Int × Int × Int) (w : World) (_hx : In64 x.1 ∧ In64 x.2.1 ∧ In64 x.2.2) :
    Calls Try.prog 21 #[.agg #[.int .i64 x.1, .int .i64 x.2.1, .int .i64 x.2.2]] w fun e w' => e = .returned (.bool (lampOk x)) ∧ Below w.heap.size w w' := by
  cases h1 : inB x.1 1 20 <;> cases h2 : inB x.2.1 1 20 <;> cases h3 : inB x.2.2 1 100
  all_goals
    go_enter Try.func21, Try.ntmps21
    go_wp2_with (go_at_call 23; refine (l00In_any _ _ _ _).mono ?_; rintro e w' ⟨rfl, rfl⟩)
    go_ret
    exact ⟨ret_bool (by simp [lampOk, h1, h2, h3]), below_alloc _ _⟩

theorem implValidLamp_any (x : Int × Int × Int) (w : World) (_hx : In64 x.1 ∧ In64 x.2.1 ∧ In64 x.2.2) :
    Calls Try.prog 9 #[.agg #[.int .i64 x.1, .int .i64 x.2.1, .int .i64 x.2.2]] w fun e w' => e = .returned (.bool (lampOk x)) ∧ Below w.heap.size w w' := by
  cases h1 : inB x.1 1 20 <;> cases h2 : inB x.2.1 1 20 <;> cases h3 : inB x.2.2 1 100
  all_goals
    go_enter Try.func9, Try.ntmps9
    go_wp2_with (go_at_call 22; refine (within_any _ _ _ _).mono ?_; rintro e w' ⟨rfl, rfl⟩)
    go_ret
    exact ⟨ret_bool (by simp [lampOk, h1, h2, h3]), below_alloc _ _⟩

theorem specValidLamp_any (x : Int × Int × Int) (w : World) (hx : In64 x.1 ∧ In64 x.2.1 ∧ In64 x.2.2) :
    Calls Try.prog 7 #[.agg #[.int .i64 x.1, .int .i64 x.2.1, .int .i64 x.2.2]] w fun e w' => e = .returned (.bool (lampOk x)) ∧ Below w.heap.size w w' := by
  go_enter Try.func7, Try.ntmps7
  go_wp2_with fail
  refine (l21Ok_any x _ hx).mono ?_
  rintro e w2 ⟨rfl, hb2⟩
  go_wp2_with fail
  go_ret
  exact ⟨rfl, below_step (below_alloc _ _) hb2⟩

theorem specLongestBurn_any (x : Int × Int × Int) (w : World) (hx : In64 x.1 ∧ In64 x.2.1 ∧ In64 x.2.2) :
    Calls Try.prog 10 #[.agg #[.int .i64 x.1, .int .i64 x.2.1, .int .i64 x.2.2]] w fun e w' => e = .returned (.tuple #[.int .i64 (burnVal x), .int .i64 (burnCode x)]) ∧ Below w.heap.size w w' := by
  cases hok : lampOk x
  · have H1 : Hid (burnVal x = 0) := by rw [Hid, burnVal, hok]; rfl
    have H2 : Hid (burnCode x = 1) := by rw [Hid, burnCode, hok]; rfl
    go_enter Try.func10, Try.ntmps10
    go_wp2_with fail
    refine (l21Ok_any x _ hx).mono ?_
    rintro e w2 ⟨rfl, hb2⟩
    go_wp2_with fail
    go_ret2
    exact ⟨ret2 H1.out.symm H2.out.symm, below_step (below_alloc _ _) hb2⟩
  · have ok := lampOk_iff.1 hok
    have H1 : Hid (burnVal x = x.2.2 / x.1) := by rw [Hid, burnVal, hok]; rfl
    have H2 : Hid (burnCode x = 0) := by rw [Hid, burnCode, hok]; rfl
    have q0 : 0 ≤ x.2.2 / x.1 := Int.ediv_nonneg (by omega) (by omega)
    have q1 : x.2.2 / x.1 ≤ 100 := Int.le_trans (Int.ediv_le_self _ (by omega)) (by omega)
    go_enter Try.func10, Try.ntmps10
    go_wp2_with fail
    have hown : Own (w.alloc (.cells #[.int .i64 x.1, .int .i64 x.2.1, .int .i64 x.2.2] 25)) w.heap.size 25 3 e3 (.slice (some ⟨w.heap.size, 0, none⟩) 1 1) [x] := Own.lit w _ _ [x] 1 (Nat.le_refl _) rfl (by simp [maxLen]) e3_len rfl
    refine (l21Ok_any x _ hx).mono ?_
    rintro e w2 ⟨rfl, hb2⟩
    obtain ⟨c0, c1, c2⟩ := ((hown.below hb2).sl e3_len).get3 (i := 0) rfl
    go_wp2_with fail
    go_ret2
    exact ⟨ret2 (by rw [H1.out]; try go_num) H2.out.symm, below_step (below_alloc _ _) hb2⟩

theorem implLongestBurn_any (x : Int × Int × Int) (w : World) (hx : In64 x.1 ∧ In64 x.2.1 ∧ In64 x.2.2) :
    Calls Try.prog 11 #[.agg #[.int .i64 x.1, .int .i64 x.2.1, .int .i64 x.2.2]] w fun e w' => e = .returned (.tuple #[.int .i64 (burnVal x), .int .i64 (burnCode x)]) ∧ Below w.heap.size w w' := by
  cases hok : lampOk x
  · have H1 : Hid (burnVal x = 0) := by rw [Hid, burnVal, hok]; rfl
    have H2 : Hid (burnCode x = 1) := by rw [Hid, burnCode, hok]; rfl
    go_enter Try.func11, Try.ntmps11
    go_wp2_with fail
    refine (implValidLamp_any x _ hx).mono ?_
    rintro e w2 ⟨rfl, hb2⟩
    go_wp2_with fail
    go_ret2
    exact ⟨ret2 H1.out.symm H2.out.symm, below_step (below_alloc _ _) hb2⟩
  · have ok := lampOk_iff.1 hok
    have H1 : Hid (burnVal x = x.2.2 / x.1) := by rw [Hid, burnVal, hok]; rfl
    have H2 : Hid (burnCode x = 0) := by rw [Hid, burnCode, hok]; rfl
    have q0 : 0 ≤ x.2.2 / x.1 := Int.ediv_nonneg (by omega) (by omega)
    have q1 : x.2.2 / x.1 ≤ 100 := Int.le_trans (Int.ediv_le_self _ (by omega)) (by omega)
    go_enter Try.func11, Try.ntmps11
    go_wp2_with fail
    have hown : Own (w.alloc (.cells #[.int .i64 x.1, .int .i64 x.2.1, .int .i64 x.2.2] 25)) w.heap.size 25 3 e3 (.slice (some ⟨w.heap.size, 0, none⟩) 1 1) [x] := Own.lit w _ _ [x] 1 (Nat.le_refl _) rfl (by simp [maxLen]) e3_len rfl
    refine (implValidLamp_any x _ hx).mono ?_
    rintro e w2 ⟨rfl, hb2⟩
    obtain ⟨c0, c1, c2⟩ := ((hown.below hb2).sl e3_len).get3 (i := 0) rfl
    go_wp2_with fail
    go_ret2
    exact ⟨ret2 (by rw [H1.out]; try go_num) H2.out.symm, below_step (below_alloc _ _) hb2⟩
end Go.Proofs.Ytphjojapbiikbaa
