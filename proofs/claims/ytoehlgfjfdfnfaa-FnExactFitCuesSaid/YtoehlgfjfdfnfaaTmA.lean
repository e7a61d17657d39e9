/-
  Contracts of the functions on pieces: the parts of a second.
-/
import Derived.Test.YtoehlgfjfdfnfaaMuD
import Derived.Test.YtoehlgfjfdfnfaaTm
namespace Go.Proofs.Ytoehlgfjfdfnfaa
open Go.RowKit


theorem commonLength_any (a b : Int) (w : World) (ha : 1 ≤ a ∧ a ≤ 100000000) (hb : 20 ≤ b ∧ b ≤ 300) :
    Calls Try.prog 56 #[.int .i64 a, .int .i64 b] w fun e w' => e = .returned (.int .i64 (puF a b)) ∧ Below w.heap.size w w' := by
  have q := puF_quo ha.1 (show 1 ≤ b by omega)
  have q2 := puF_bd ha hb
  have HP : Hid (puF a b = a / fracG a b * b) := rfl
  have q3 : 1 ≤ a / fracG a b * b ∧ a / fracG a b * b ≤ 30000000000 := q2
  go_enter Try.func56, Try.ntmps56
  go_wp2_with fail
  refine (gcd_any a b _ (by omega) (by omega) (by omega) (by omega)).mono ?_
  rintro e w2 ⟨rfl, hb2⟩
  generalize fracG a b = G at HP q q3 ⊢
  go_wp2_with fail
  go_ret
  exact ⟨ret_int HP.out.symm, hb2⟩

theorem l19Parts_any (A : Option Addr) (n c : Nat) (xs : List (Int × Int × Int)) (w : World) (h : Sl w 3 e3 A n xs) (ok : PtB xs) :
    Calls Try.prog 26 #[.slice A n c] w fun e w' => e = .returned (.int .i64 (partsI xs)) ∧ Below w.heap.size w w' := by
  have hl := ok.1
  have hl2 := h.1
  go_enter Try.func26, Try.ntmps26
  go_wp2
  go_loopw [3, 4] (fun q i wr => ∃ k : Nat, ∃ m : Int, k ≤ n ∧ i = .int .i64 k ∧ q = .int .i64 m ∧ 1 ≤ m ∧ m ≤ 100000000 ∧ Hid (partsI xs = puL (xs.drop k) m) ∧ Below w.heap.size w wr) (fun _ i _ => n - (intOf i).toNat)
  case atStart => exact ⟨0, 1, by omega, rfl, rfl, by omega, by omega, rfl, Below.refl _ _⟩
  case round =>
    obtain ⟨k, m, hk, rfl, rfl, hm1, hm2, he, hb⟩ := hrel
    by_cases hlt : k < n
    · obtain ⟨b, off, x, rfl, hx, hm, c0, c1, c2⟩ := (h.below hb).at3 hlt
      have hx1 := ok.2 x hm
      have q1 := puF_quo hm1 (show 1 ≤ x.2.2 by omega)
      have q2 := puF_bd ⟨hm1, hm2⟩ (show 20 ≤ x.2.2 ∧ x.2.2 ≤ 300 by omega)
      have g1 : (0 : Int) ≤ (k : Int) := by omega
      have g2 : (k : Int) < (n : Int) := by omega
      have hz : (fracG m x.2.2 == 0) = false := by rw [beq_eq_false_iff_ne]; omega
      have r1 : IntKind.i64.wrap (Int.tdiv m (fracG m x.2.2)) = m / fracG m x.2.2 := tdiv64' (by omega) (by omega) (by omega)
      have r2 : IntKind.i64.wrap (m / fracG m x.2.2 * x.2.2) = puF m x.2.2 := wr64 (show _ ≤ puF m x.2.2 ∧ puF m x.2.2 ≤ _ by omega)
      by_cases hq : 100000000 < puF m x.2.2
      · have H1 : Hid (partsI xs = 0) := by rw [Hid, he.out, puL_stop hx hq]
        go_wp2_with fail
        go_quiet ((go_at_call 45; exact quiet_left (l00Gcd_any _ _ _ (by omega) (by omega) (by omega) (by omega))))
        clear r1 r2
        go_wp2_with fail
        go_ret
        exact ⟨ret_int H1.out.symm, below_drewN hb _⟩
      · have H1 : Hid (partsI xs = puL (xs.drop (k + 1)) (puF m x.2.2)) := by rw [Hid, he.out, puL_go hx hq]
        go_wp2_with fail
        go_quiet ((go_at_call 45; exact quiet_left (l00Gcd_any _ _ _ (by omega) (by omega) (by omega) (by omega))))
        clear r1 r2
        go_wp2_with fail
        go_roundw
        case rel => exact ⟨k + 1, puF m x.2.2, by omega, by go_num, rfl, by omega, by omega, H1, below_drewN hb _⟩
        case measure => simp [intOf]; omega
    · have : k = n := by omega
      subst this
      have HL := Lib.hid h.1
      go_wp2_with fail
      go_ret
      exact ⟨ret_int (by rw [he.out, ← HL.out, puL_end]), hb⟩

theorem unitsOf_any (A : Option Addr) (n c : Nat) (xs : List (Int × Int × Int)) (w : World) (h : Sl w 3 e3 A n xs) (ok : PtB xs) :
    Calls Try.prog 48 #[.slice A n c] w fun e w' => e = .returned (.int .i64 (partsI xs)) ∧ Below w.heap.size w w' := by
  have hl := ok.1
  have hl2 := h.1
  go_enter Try.func48, Try.ntmps48
  go_wp2
  go_loopw [3, 8] (fun q i wr => ∃ k : Nat, ∃ m : Int, k ≤ n ∧ i = .int .i64 k ∧ q = .int .i64 m ∧ 1 ≤ m ∧ m ≤ 100000000 ∧ Hid (partsI xs = puL (xs.drop k) m) ∧ Below w.heap.size w wr) (fun _ i _ => n - (intOf i).toNat)
  case atStart => exact ⟨0, 1, by omega, rfl, rfl, by omega, by omega, rfl, Below.refl _ _⟩
  case round =>
    obtain ⟨k, m, hk, rfl, rfl, hm1, hm2, he, hb⟩ := hrel
    by_cases hlt : k < n
    · obtain ⟨b, off, x, rfl, hx, hm, c0, c1, c2⟩ := (h.below hb).at3 hlt
      have hx1 := ok.2 x hm
      have q2 := puF_bd ⟨hm1, hm2⟩ (show 20 ≤ x.2.2 ∧ x.2.2 ≤ 300 by omega)
      by_cases hq : 100000000 < puF m x.2.2
      · have H1 : Hid (partsI xs = 0) := by rw [Hid, he.out, puL_stop hx hq]
        go_wp2_with fail
        refine (commonLength_any _ _ _ ⟨hm1, hm2⟩ (by omega)).mono ?_
        rintro e w5 ⟨rfl, hb5⟩
        go_wp2_with fail
        go_ret
        exact ⟨ret_int H1.out.symm, below_mid hb (below_step (below_alloc _ _) hb5) hb.size⟩
      · have H1 : Hid (partsI xs = puL (xs.drop (k + 1)) (puF m x.2.2)) := by rw [Hid, he.out, puL_go hx hq]
        go_wp2_with fail
        refine (commonLength_any _ _ _ ⟨hm1, hm2⟩ (by omega)).mono ?_
        rintro e w5 ⟨rfl, hb5⟩
        go_wp2_with fail
        go_roundw
        case rel => exact ⟨k + 1, puF m x.2.2, by omega, by go_num, rfl, by omega, by omega, H1, below_mid hb (below_step (below_alloc _ _) hb5) hb.size⟩
        case measure => simp [intOf]; omega
    · have : k = n := by omega
      subst this
      have HL := Lib.hid h.1
      go_wp2_with fail
      go_ret
      exact ⟨ret_int (by rw [he.out, ← HL.out, puL_end]), hb⟩

end Go.Proofs.Ytoehlgfjfdfnfaa
