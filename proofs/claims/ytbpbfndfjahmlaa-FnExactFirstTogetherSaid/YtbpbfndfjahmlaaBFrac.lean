/-
  Greatest common divisors and fractions in lowest terms.
-/
import Derived.Test.YtbpbfndfjahmlaaBInt
namespace Go.Proofs.Ytbpbfndfjahmlaa
open Go.RowKit

/-- the fraction of two numbers, the second one positive -/
def fracG (a b : Int) : Int := (Nat.gcd a.toNat b.toNat : Int)
def fracOf (a b : Int) : Int × Int := (a / fracG a b, b / fracG a b)
theorem fracG_bd {a b : Int} (hb : 0 < b) : 1 ≤ fracG a b ∧ fracG a b ≤ b := by
  unfold fracG
  have h1 : 0 < Nat.gcd a.toNat b.toNat := Nat.gcd_pos_of_pos_right _ (by omega)
  have h2 : Nat.gcd a.toNat b.toNat ≤ b.toNat := Nat.gcd_le_right _ (by omega)
  omega

theorem l00Gcd_any (a b : Int) (w : World) (ha : 0 ≤ a) (hb : 0 ≤ b) (ha2 : a ≤ 9223372036854775807) (hb2 : b ≤ 9223372036854775807) :
    Calls Try.prog 15 #[.int .i64 a, .int .i64 b] w fun e w' => e = .returned (.int .i64 (fracG a b)) ∧ w = w' := by
  go_enter Try.func15, Try.ntmps15
  go_wp2
  go_loop [0, 1] (fun p q => ∃ x y : Nat, p = .int .i64 x ∧ q = .int .i64 y ∧ Hid (Nat.gcd x y = Nat.gcd a.toNat b.toNat) ∧ x ≤ 9223372036854775807 ∧ y ≤ 9223372036854775807) (fun _ q => (intOf q).toNat)
  case atStart => exact ⟨a.toNat, b.toNat, by rw [Int.toNat_of_nonneg ha], by rw [Int.toNat_of_nonneg hb], rfl, by omega, by omega⟩
  case round =>
    obtain ⟨x, y, rfl, rfl, hg, hx, hy⟩ := hrel
    by_cases h0 : y = 0
    · have HY := Lib.hid h0; clear h0
      have hz : ((y : Int) != 0) = false := by have := HY.out; simp [this]
      go_wp2
      go_ret
      exact ⟨ret_int (by have h1 := hg.out; rw [HY.out, Nat.gcd_zero_right] at h1; rw [fracG, ← h1]), rfl⟩
    · have hz : ((y : Int) != 0) = true := by simp [h0]
      have hlt : x % y < y := Nat.mod_lt _ (by omega)
      go_wp2
      go_round
      case rel => exact ⟨y, x % y, rfl, by simp, by rw [Hid, Nat.gcd_comm, ← hg.out, ← Nat.gcd_rec, Nat.gcd_comm], by omega, by omega⟩
      case measure => simp [intOf]; omega

theorem gcd_any (a b : Int) (w : World) (ha : 0 ≤ a) (hb : 0 ≤ b) (ha2 : a ≤ 9223372036854775807) (hb2 : b ≤ 9223372036854775807) :
    Calls Try.prog 26 #[.int .i64 a, .int .i64 b] w fun e w' => e = .returned (.int .i64 (fracG a b)) ∧ Below w.heap.size w w' := by
  go_enter Try.func26, Try.ntmps26
  go_wp2
  go_loopw [0, 1] (fun p q wr => ∃ x y : Nat, p = .int .i64 x ∧ q = .int .i64 y ∧ Hid (Nat.gcd x y = Nat.gcd a.toNat b.toNat) ∧ x ≤ 9223372036854775807 ∧ y ≤ 9223372036854775807 ∧ Below w.heap.size w wr) (fun _ q _ => (intOf q).toNat)
  case atStart => exact ⟨a.toNat, b.toNat, by rw [Int.toNat_of_nonneg ha], by rw [Int.toNat_of_nonneg hb], rfl, by omega, by omega, Below.refl _ _⟩
  case round =>
    obtain ⟨x, y, rfl, rfl, hg, hx, hy, hbl⟩ := hrel
    by_cases h0 : y = 0
    · have HY := Lib.hid h0; clear h0
      have hz : ((y : Int) != 0) = false := by have := HY.out; simp [this]
      go_wp2
      go_ret
      exact ⟨ret_int (by have h1 := hg.out; rw [HY.out, Nat.gcd_zero_right] at h1; rw [fracG, ← h1]), hbl⟩
    · have hz : ((y : Int) != 0) = true := by simp [h0]
      have hlt : x % y < y := Nat.mod_lt _ (by omega)
      go_wp2_with fail
      go_region
      go_wp2_with fail
      go_roundw
      case rel => exact ⟨y, x % y, rfl, by simp, by rw [Hid, Nat.gcd_comm, ← hg.out, ← Nat.gcd_rec, Nat.gcd_comm], by omega, by omega, hbl.drew⟩
      case measure => simp [intOf]; omega

end Go.Proofs.Ytbpbfndfjahmlaa
