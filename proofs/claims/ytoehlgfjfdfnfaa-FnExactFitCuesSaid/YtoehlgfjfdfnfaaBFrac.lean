/-
  Greatest common divisors and fractions in lowest terms.
-/
import Derived.Test.YtoehlgfjfdfnfaaBInt
namespace Go.Proofs.Ytoehlgfjfdfnfaa
open Go.RowKit

/-- the fraction of two numbers, the second one positive -/
def fracG (a b : Int) : Int := (Nat.gcd a.toNat b.toNat : Int)
def fracOf (a b : Int) : Int × Int := (a / fracG a b, b / fracG a b)
theorem fracG_bd {a b : Int} (hb : 0 < b) : 1 ≤ fracG a b ∧ fracG a b ≤ b := by
  unfold fracG
  have h1 : 0 < Nat.gcd a.toNat b.toNat := Nat.gcd_pos_of_pos_right _ (by omega)
  have h2 : Nat.gcd a.toNat b.toNat ≤ b.toNat := Nat.gcd_le_right _ (by omega)
  omega

theorem l00Gcd_any (a b : Int) (w : World) (ha : 0 ≤ a) (hb : 0 ≤ b) (ha2 : a ≤ 9223372036854775807) (hb2 : b ≤ 9223372036854775807) :
    Calls Try.prog 45 #[.int .i64 a, .int .i64 b] w fun e w' => e = .returned (.int .i64 (fracG a b)) ∧ w = w' := by
  go_enter Try.func45, Try.ntmps45
  go_wp2
  go_loop [0, 1] (fun p q => ∃ x y : Nat, p = .int .i64 x ∧ q = .int .i64 y ∧ Hid (Nat.gcd x y = Nat.gcd a.toNat b.toNat) ∧ x ≤ 9223372036854775807 ∧ y ≤ 9223372036854775807) (fun _ q => (intOf q).toNat)
  case atStart => exact ⟨a.toNat, b.toNat, by rw [Int.toNat_of_nonneg ha], by rw [Int.toNat_of_nonneg hb], rfl, by omega, by omega⟩
  case round =>
    obtain ⟨x, y, rfl, rfl, hg, hx, hy⟩ := hrel
    by_cases h0 : y = 0
    · have HY := Lib.hid h0; clear h0
      have hz : ((y : Int) != 0) = false := by have := HY.out; simp [this]
      go_wp2
      go_ret
      exact ⟨ret_int (by have h1 := hg.out; rw [HY.out, Nat.gcd_zero_right] at h1; rw [fracG, ← h1]), rfl⟩
    · have hz : ((y : Int) != 0) = true := by simp [h0]
      have hlt : x % y < y := Nat.mod_lt _ (by omega)
      go_wp2
      go_round
      case rel => exact ⟨y, x % y, rfl, by simp, by rw [Hid, Nat.gcd_comm, ← hg.out, ← Nat.gcd_rec, Nat.gcd_comm], by omega, by omega⟩
      case measure => simp [intOf]; omega

theorem l00Size_any (a : Int) (w : World) (ha : 0 ≤ a) :
    Calls Try.prog 50 #[.int .i64 a] w fun e w' => e = .returned (.int .i64 a) ∧ w = w' := by
  go_enter Try.func50, Try.ntmps50
  go_wp2
  go_ret
  exact ⟨rfl, rfl⟩

theorem gcd_any (a b : Int) (w : World) (ha : 0 ≤ a) (hb : 0 ≤ b) (ha2 : a ≤ 9223372036854775807) (hb2 : b ≤ 9223372036854775807) :
    Calls Try.prog 51 #[.int .i64 a, .int .i64 b] w fun e w' => e = .returned (.int .i64 (fracG a b)) ∧ Below w.heap.size w w' := by
  go_enter Try.func51, Try.ntmps51
  go_wp2
  go_loopw [0, 1] (fun p q wr => ∃ x y : Nat, p = .int .i64 x ∧ q = .int .i64 y ∧ Hid (Nat.gcd x y = Nat.gcd a.toNat b.toNat) ∧ x ≤ 9223372036854775807 ∧ y ≤ 9223372036854775807 ∧ Below w.heap.size w wr) (fun _ q _ => (intOf q).toNat)
  case atStart => exact ⟨a.toNat, b.toNat, by rw [Int.toNat_of_nonneg ha], by rw [Int.toNat_of_nonneg hb], rfl, by omega, by omega, Below.refl _ _⟩
  case round =>
    obtain ⟨x, y, rfl, rfl, hg, hx, hy, hbl⟩ := hrel
    by_cases h0 : y = 0
    · have HY := Lib.hid h0; clear h0
      have hz : ((y : Int) != 0) = false := by have := HY.out; simp [this]
      go_wp2
      go_ret
      exact ⟨ret_int (by have h1 := hg.out; rw [HY.out, Nat.gcd_zero_right] at h1; rw [fracG, ← h1]), hbl⟩
    · have hz : ((y : Int) != 0) = true := by simp [h0]
      have hlt : x % y < y := Nat.mod_lt _ (by omega)
      go_wp2_with fail
      go_region
      go_wp2_with fail
      go_roundw
      case rel => exact ⟨y, x % y, rfl, by simp, by rw [Hid, Nat.gcd_comm, ← hg.out, ← Nat.gcd_rec, Nat.gcd_comm], by omega, by omega, hbl.drew⟩
      case measure => simp [intOf]; omega

theorem l02Make_any (a b : Int) (w : World) (ha : 0 ≤ a) (hb : 0 < b) (ha2 : a ≤ 4611686018427387904) (hb2 : b ≤ 4611686018427387904) :
    Calls Try.prog 34 #[.int .i64 a, .int .i64 b] w fun e w' => e = .returned (.agg #[.int .i64 (fracOf a b).1, .int .i64 (fracOf a b).2]) ∧ Below w.heap.size w w' := by
  have hg := fracG_bd (a := a) hb
  have HQ : Hid (fracOf a b = (a / fracG a b, b / fracG a b)) := rfl
  have hne : (fracG a b == 0) = false := by simp; omega
  go_enter Try.func34, Try.ntmps34
  go_wp2_with (first | (go_at_call 50; refine (l00Size_any a _ ha).mono ?_; rintro e w' ⟨rfl, rfl⟩) | (go_at_call 45; refine (l00Gcd_any a b _ ha (by omega) (by omega) (by omega)).mono ?_; rintro e w' ⟨rfl, rfl⟩))
  go_region
  go_wp2_with fail
  exact bodyPost_ret (v := .agg #[.int .i64 (a / fracG a b), .int .i64 (b / fracG a b)]) (by simp [results, Try.results34, go_sem]) rfl ⟨by rw [HQ.out], (below_alloc _ _).drew⟩

theorem lowest_any (a b : Int) (w : World) (ha : 0 ≤ a) (hb : 0 < b) (ha2 : a ≤ 4611686018427387904) (hb2 : b ≤ 4611686018427387904) :
    Calls Try.prog 36 #[.int .i64 a, .int .i64 b] w fun e w' => e = .returned (.agg #[.int .i64 (fracOf a b).1, .int .i64 (fracOf a b).2]) ∧ Below w.heap.size w w' := by
  have hg := fracG_bd (a := a) hb
  have HQ : Hid (fracOf a b = (a / fracG a b, b / fracG a b)) := rfl
  have hne : (fracG a b == 0) = false := by simp; omega
  go_enter Try.func36, Try.ntmps36
  go_wp2_with fail
  refine (gcd_any a b _ ha (by omega) (by omega) (by omega)).mono ?_
  rintro e w2 ⟨rfl, hb2⟩
  have k0 : w2.cell? ⟨w.heap.size, 0, none⟩ = some (.int .i64 0) := by rw [hb2.cell (by simp)]; simp
  have k1 : w2.cell? ⟨w.heap.size, 1, none⟩ = some (.int .i64 0) := by rw [hb2.cell (by simp)]; simp
  have m0 : w2.frozen? ⟨w.heap.size, 0, none⟩ = false := by rw [hb2.frozen (by simp)]; simp
  have m1 : w2.frozen? ⟨w.heap.size, 1, none⟩ = false := by rw [hb2.frozen (by simp)]; simp
  have hb3 := below_step (below_alloc w _) hb2
  go_wp2_with fail
  go_region
  go_wp2_with fail
  have q0 : (w2.setCell ⟨w.heap.size, 0, none⟩ (.int .i64 (a / fracG a b))).cell? ⟨w.heap.size, 0, none⟩ = some (.int .i64 (a / fracG a b)) := World.cell?_setCell_same _ _ _ k0
  have q1 : ((w2.setCell ⟨w.heap.size, 0, none⟩ (.int .i64 (a / fracG a b))).setCell ⟨w.heap.size, 1, none⟩ (.int .i64 (b / fracG a b))).cell? ⟨w.heap.size, 1, none⟩ = some (.int .i64 (b / fracG a b)) :=
    World.cell?_setCell_same _ _ _ ((World.cell?_setCell_other _ _ _ _ (by simp)).trans k1)
  exact bodyPost_ret (v := .agg #[.int .i64 (a / fracG a b), .int .i64 (b / fracG a b)]) (by simp [results, Try.results36, go_sem, q0, q1]) rfl ⟨by rw [HQ.out], ((hb3.setCell (by simp) _).setCell (by simp) _).drew⟩

theorem eqFraction_any (x y : Int × Int) (w : World) :
    Calls Try.prog 14 #[.agg #[.int .i64 x.1, .int .i64 x.2], .agg #[.int .i64 y.1, .int .i64 y.2]] w fun e w' => e = .returned (.bool (decide (x = y))) ∧ Below w.heap.size w w' := by
  have hxy : (x = y) ↔ x.1 = y.1 ∧ x.2 = y.2 := by simp [Prod.ext_iff]
  have H := Lib.hid hxy; clear hxy
  go_enter Try.func14, Try.ntmps14
  go_wp2
  all_goals go_ret
  all_goals refine ⟨ret_bool ?_, (((Below.refl _ _).alloc (by simp) _).alloc (by simp) _)⟩
  all_goals first
    | (have h := (by assumption : (x.1 != y.1) = true); simp at h; simp [H.out, h])
    | (have h := (by assumption : (x.2 != y.2) = true); simp at h; simp [H.out, h])
    | (have g0 := (by assumption : (x.1 != y.1) = false); have g1 := (by assumption : (x.2 != y.2) = false); simp at g0 g1; simp [H.out, g0, g1])
end Go.Proofs.Ytoehlgfjfdfnfaa
