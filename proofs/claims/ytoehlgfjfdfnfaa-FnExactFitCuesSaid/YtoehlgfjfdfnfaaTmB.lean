/-
  Contracts of the functions on pieces: when a beat begins (the reference).
-/
import Derived.Test.YtoehlgfjfdfnfaaTmA
namespace Go.Proofs.Ytoehlgfjfdfnfaa
open Go.RowKit

theorem l00Min_any (a b : Int) (w : World) : Calls Try.prog 46 #[.int .i64 a, .int .i64 b] w fun e w' => e = .returned (.int .i64 (min a b)) ∧ w = w' := by
  by_cases h1 : a < b
  all_goals
    go_enter Try.func46, Try.ntmps46
    go_wp2
    go_ret
    exact ⟨ret_int (by omega), rfl⟩

set_option maxHeartbeats 400000 in
theorem l19Units_any (A : Option Addr) (n c : Nat) (xs : List (Int × Int × Int)) (b U : Int) (w : World) (h : Sl w 3 e3 A n xs) (ok : PtB xs) (hb0 : 0 ≤ b ∧ b ≤ 28800) (hU : 1 ≤ U ∧ U ≤ 100000000) :
    Calls Try.prog 28 #[.slice A n c, .int .i64 b, .int .i64 U] w fun e w' => e = .returned (.int .i64 (unI U xs b)) ∧ Below w.heap.size w w' := by
  have hl := ok.1
  have hl2 := h.1
  go_enter Try.func28, Try.ntmps28
  go_wp2
  go_loopw [1, 7, 8] (fun v q i wr => ∃ k : Nat, ∃ be su : Int, k ≤ n ∧ i = .int .i64 k ∧ v = .int .i64 be ∧ q = .int .i64 su ∧ 0 ≤ be ∧ be ≤ b ∧ 0 ≤ su ∧ su ≤ (b - be) * 300000000 ∧ Hid (unI U xs b = su + unI U (xs.drop k) be) ∧ Below w.heap.size w wr) (fun _ _ i _ => n - (intOf i).toNat)
  case atStart => exact ⟨0, b, 0, by omega, rfl, rfl, rfl, by omega, by omega, by omega, by omega, by simp [Hid], Below.refl _ _⟩
  case round =>
    obtain ⟨k, be, su, hk, rfl, rfl, rfl, hbe0, hbe1, hsu0, hsu1, he, hb⟩ := hrel
    by_cases hlt : k < n
    · by_cases hpos : 0 < be
      · obtain ⟨bb, off, x, rfl, hx, hm, c0, c1, c2⟩ := (h.below hb).at3 hlt
        have hx1 := ok.2 x hm
        have q1 := bF_bd hx1
        have q2 := stU_bd hU (show 20 ≤ x.2.2 ∧ x.2.2 ≤ 300 by omega)
        have HS := Lib.hid (unI_go (U := U) hx hpos)
        have HX := Lib.hid hx
        clear hx
        have g1 : (0 : Int) ≤ (k : Int) := by omega
        have g2 : (k : Int) < (n : Int) := by omega
        have r1 : IntKind.i64.wrap (x.1 * x.2.1) = x.1 * x.2.1 := wr64 (by omega)
        go_wp2_with fail
        go_quiet ((go_at_call 46; exact quiet_left (l00Min_any _ _ _)))
        clear r1
        have hmn : 0 ≤ min be (x.1 * x.2.1) ∧ min be (x.1 * x.2.1) ≤ be := by omega
        generalize min be (x.1 * x.2.1) = m at HS hmn ⊢
        generalize hW : wr.drewN nq = w5
        have hb5 : Below w.heap.size w w5 := by rw [← hW]; exact below_drewN hb _
        obtain ⟨d0, d1, d2⟩ := (h.below hb5).get3 HX.out
        clear c0 c1 c2 hW
        have HQ : Hid (stU U x = 60 * U / x.2.2) := rfl
        have q3 : 0 ≤ 60 * U / x.2.2 ∧ 60 * U / x.2.2 ≤ 300000000 := q2
        have p0 : 0 ≤ m * (60 * U / x.2.2) := Int.mul_nonneg (by omega) (by omega)
        have p1 : m * (60 * U / x.2.2) ≤ m * 300000000 := Int.mul_le_mul_of_nonneg_left q3.2 (by omega)
        go_wp2_with fail
        go_roundw
        case rel => exact ⟨k + 1, be - m, su + m * (60 * U / x.2.2), by omega, by go_num, rfl, rfl, by omega, by omega, by omega, by omega, by rw [Hid, he.out, HS.out, HQ.out]; omega, hb5⟩
        case measure => simp [intOf]; omega
      · have HS : Hid (unI U (xs.drop k) be = 0) := by have : be = 0 := by omega
                                                       subst this; exact unI_zero _ _
        go_wp2_with fail
        go_ret
        exact ⟨ret_int (by rw [he.out, HS.out, Int.add_zero]), hb⟩
    · have : k = n := by omega
      subst this
      have HL := Lib.hid h.1
      have hlt' : ((k : Int) < (k : Int)) = False := by simp
      clear hlt'
      go_wp2_with fail
      go_ret
      exact ⟨ret_int (by rw [he.out, ← HL.out, unI_end, Int.add_zero]), hb⟩

end Go.Proofs.Ytoehlgfjfdfnfaa
