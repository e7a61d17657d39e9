/-
  Contracts of the functions on slides in lanterns: levels.
-/
import Derived.Test.YthkcamghmfenkaaShA
import Derived.WalkLawsBesides
namespace Go.Proofs.Ythkcamghmfenkaa
open Go.RowKit

theorem lev_off {x : Int × Int × Int} {t : Int} (h : inB t x.1 (x.2.1 - 1) = false) : lev x t = 0 := by
  have := inB_false.1 h
  rw [lev, if_neg (by omega)]
theorem lev_flat {x : Int × Int × Int} {t : Int} (h : inB t x.1 (x.2.1 - 1) = true) (h2 : x.2.2 = 0) : lev x t = 100 := by
  have := inB_true.1 h
  rw [lev, if_pos (by omega), if_pos h2]
theorem lev_on {x : Int × Int × Int} {t : Int} (h : inB t x.1 (x.2.1 - 1) = true) (h2 : ¬ x.2.2 = 0) : lev x t = min 100 (min (100 * (t - x.1) / x.2.2) (100 * (x.2.1 - t) / x.2.2)) := by
  have := inB_true.1 h
  rw [lev, if_pos (by omega), if_neg h2]
theorem tdiv64 {a b : Int} (ha : 0 ≤ a) (hb : 0 < b) (h : a ≤ 9223372036854775807) : IntKind.i64.wrap (Int.tdiv a b) = a / b := by
  rw [Int.tdiv_eq_ediv_of_nonneg ha]
  have h0 : 0 ≤ a / b := Int.ediv_nonneg ha (by omega)
  have h1 : a / b ≤ a := Int.ediv_le_self _ ha
  exact wr64 (by omega)

theorem l15Level_any (x : Int × Int × Int) (t : Int) (w : World) (hx : 0 ≤ x.1 ∧ x.1 ≤ 10000 ∧ x.1 + 1 ≤ x.2.1 ∧ x.2.1 ≤ 20000 ∧ 0 ≤ x.2.2 ∧ x.2.2 ≤ 500) (ht : 0 ≤ t ∧ t ≤ 20000) :
    Calls Try.prog 54 #[.agg #[.int .i64 x.1, .int .i64 x.2.1, .int .i64 x.2.2], .int .i64 t] w fun e w' => e = .returned (.int .i64 (lev x t)) ∧ Below w.heap.size w w' := by
  cases hin : inB t x.1 (x.2.1 - 1)
  · have H1 := Lib.hid (lev_off hin)
    go_enter Try.func54, Try.ntmps54
    go_wp2_with fail
    refine (l00In_any _ _ _ _).mono ?_
    rintro e w2 ⟨rfl, rfl⟩
    go_wp2_with fail
    go_ret
    exact ⟨ret_int H1.out.symm, below_alloc _ _⟩
  · have hi := inB_true.1 hin
    by_cases hz : x.2.2 = 0
    · have H1 := Lib.hid (lev_flat hin hz)
      go_enter Try.func54, Try.ntmps54
      go_wp2_with fail
      refine (l00In_any _ _ _ _).mono ?_
      rintro e w2 ⟨rfl, rfl⟩
      go_wp2_with fail
      go_ret
      exact ⟨ret_int H1.out.symm, below_alloc _ _⟩
    · have H1 := Lib.hid (lev_on hin hz)
      have hz2 : (x.2.2 == 0) = false := by simp [hz]
      have r1 : IntKind.i64.wrap (t - x.1) = t - x.1 := wr64 (by omega)
      have r2 : IntKind.i64.wrap (100 * (t - x.1)) = 100 * (t - x.1) := wr64 (by omega)
      have r3 : IntKind.i64.wrap (Int.tdiv (100 * (t - x.1)) x.2.2) = 100 * (t - x.1) / x.2.2 := tdiv64 (by omega) (by omega) (by omega)
      have r4 : IntKind.i64.wrap (x.2.1 - t) = x.2.1 - t := wr64 (by omega)
      have r5 : IntKind.i64.wrap (100 * (x.2.1 - t)) = 100 * (x.2.1 - t) := wr64 (by omega)
      have r6 : IntKind.i64.wrap (Int.tdiv (100 * (x.2.1 - t)) x.2.2) = 100 * (x.2.1 - t) / x.2.2 := tdiv64 (by omega) (by omega) (by omega)
      go_enter Try.func54, Try.ntmps54
      go_wp2_with fail
      refine (l00In_any _ _ _ _).mono ?_
      rintro e w2 ⟨rfl, rfl⟩
      go_wp2_with fail
      have hown : Own (w.alloc (.cells #[.int .i64 x.1, .int .i64 x.2.1, .int .i64 x.2.2] 38)) w.heap.size 38 3 e3 (.slice (some ⟨w.heap.size, 0, none⟩) 1 1) [x] := Own.lit w _ _ [x] 1 (Nat.le_refl _) rfl (by simp [maxLen]) e3_len rfl
      obtain ⟨c0, c1, c2⟩ := (hown.sl e3_len).get3 (i := 0) rfl
      have hb := below_alloc w (.cells #[.int .i64 x.1, .int .i64 x.2.1, .int .i64 x.2.2] 38)
      clear hown
      generalize w.alloc (.cells #[.int .i64 x.1, .int .i64 x.2.1, .int .i64 x.2.2] 38) = w1 at hb c0 c1 c2 ⊢
      have hbd := hb.drew
      go_still_tail 16, (by kernel_rfl)
      clear r1 r2 r3 r4 r5 r6
      change wpList _ _ _ _ _ w1.drew
      generalize w1.drew = w2 at hbd ⊢
      go_wp2_with (go_at_call 68; refine (l00Min_any _ _ _).mono ?_; rintro e w' ⟨rfl, rfl⟩)
      go_ret
      exact ⟨ret_int H1.out.symm, hbd⟩

theorem isOn_any (x : Int × Int × Int) (t : Int) (w : World) :
    Calls Try.prog 56 #[.agg #[.int .i64 x.1, .int .i64 x.2.1, .int .i64 x.2.2], .int .i64 t] w fun e w' => e = .returned (.bool (decide (x.1 ≤ t ∧ t < x.2.1))) ∧ Below w.heap.size w w' := by
  by_cases h1 : x.1 ≤ t <;> by_cases h2 : t < x.2.1
  all_goals
    try have h1' : decide (x.1 ≤ t) = false := by simp; omega
    go_enter Try.func56, Try.ntmps56
    go_wp2
    go_ret
    exact ⟨ret_bool (by simp [h1, h2]), below_alloc _ _⟩

theorem level_any (x : Int × Int × Int) (t : Int) (w : World) (hx : 0 ≤ x.1 ∧ x.1 ≤ 10000 ∧ x.1 + 1 ≤ x.2.1 ∧ x.2.1 ≤ 20000 ∧ 0 ≤ x.2.2 ∧ x.2.2 ≤ 500) (ht : 0 ≤ t ∧ t ≤ 20000) :
    Calls Try.prog 69 #[.agg #[.int .i64 x.1, .int .i64 x.2.1, .int .i64 x.2.2], .int .i64 t] w fun e w' => e = .returned (.int .i64 (lev x t)) ∧ Below w.heap.size w w' := by
  have hown : Own (w.alloc (.cells #[.int .i64 x.1, .int .i64 x.2.1, .int .i64 x.2.2] 38)) w.heap.size 38 3 e3 (.slice (some ⟨w.heap.size, 0, none⟩) 1 1) [x] := Own.lit w _ _ [x] 1 (Nat.le_refl _) rfl (by simp [maxLen]) e3_len rfl
  have hb := below_alloc w (.cells #[.int .i64 x.1, .int .i64 x.2.1, .int .i64 x.2.2] 38)
  cases hin : inB t x.1 (x.2.1 - 1)
  · have H1 := Lib.hid (lev_off hin)
    have ho : decide (x.1 ≤ t ∧ t < x.2.1) = false := by have := inB_false.1 hin; simp; omega
    have hoff := Lib.hid ho
    clear ho
    go_enter Try.func69, Try.ntmps69
    go_wp2_with fail
    refine (isOn_any x t _).mono ?_
    rintro e w2 ⟨rfl, hb2⟩
    rw [hoff.out]
    go_wp2_with fail
    go_ret
    exact ⟨ret_int H1.out.symm, below_step hb hb2⟩
  · have hi := inB_true.1 hin
    have ho : decide (x.1 ≤ t ∧ t < x.2.1) = true := by simp; omega
    have hoff := Lib.hid ho
    clear ho
    by_cases hz : x.2.2 = 0
    · have H1 := Lib.hid (lev_flat hin hz)
      have HZ := Lib.hid hz
      clear hz
      go_enter Try.func69, Try.ntmps69
      go_wp2_with fail
      refine (isOn_any x t _).mono ?_
      rintro e w2 ⟨rfl, hb2⟩
      obtain ⟨c0, c1, c2⟩ := ((hown.below hb2).sl e3_len).get3 (i := 0) rfl
      rw [hoff.out]
      have hz := HZ.out
      go_wp2_with fail
      go_ret
      exact ⟨ret_int H1.out.symm, below_step hb hb2⟩
    · have H1 := Lib.hid (lev_on hin hz)
      have hz2 : (x.2.2 == 0) = false := by simp [hz]
      have r1 : IntKind.i64.wrap (t - x.1) = t - x.1 := wr64 (by omega)
      have r2 : IntKind.i64.wrap (100 * (t - x.1)) = 100 * (t - x.1) := wr64 (by omega)
      have r3 : IntKind.i64.wrap (Int.tdiv (100 * (t - x.1)) x.2.2) = 100 * (t - x.1) / x.2.2 := tdiv64 (by omega) (by omega) (by omega)
      have r4 : IntKind.i64.wrap (x.2.1 - t) = x.2.1 - t := wr64 (by omega)
      have r5 : IntKind.i64.wrap (100 * (x.2.1 - t)) = 100 * (x.2.1 - t) := wr64 (by omega)
      have r6 : IntKind.i64.wrap (Int.tdiv (100 * (x.2.1 - t)) x.2.2) = 100 * (x.2.1 - t) / x.2.2 := tdiv64 (by omega) (by omega) (by omega)
      go_enter Try.func69, Try.ntmps69
      go_wp2_with fail
      refine (isOn_any x t _).mono ?_
      rintro e w2 ⟨rfl, hb2⟩
      obtain ⟨c0, c1, c2⟩ := ((hown.below hb2).sl e3_len).get3 (i := 0) rfl
      have hb3 := below_step hb hb2
      clear hown hb hb2
      rw [hoff.out]
      have hbd := hb3.drew
      generalize hq1 : 100 * (t - x.1) / x.2.2 = q1 at r3 H1
      generalize hq2 : 100 * (x.2.1 - t) / x.2.2 = q2 at r6 H1
      clear hq1 hq2
      go_wp2_with fail
      go_still_tail 16, (by kernel_rfl)
      clear r1 r2 r3 r4 r5 r6
      change wpList _ _ _ _ _ w2.drew
      generalize w2.drew = w3 at hbd ⊢
      by_cases m1 : q1 < 100 <;> by_cases m2 : q2 < 100 <;> by_cases m3 : q2 < q1
      all_goals go_wp2_with fail
      all_goals go_ret
      all_goals exact ⟨ret_int (by rw [H1.out]; omega), hbd⟩
end Go.Proofs.Ythkcamghmfenkaa
