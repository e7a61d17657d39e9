/-
  Contracts of the functions on wheels.
-/
import Derived.Test.YtbpbfndfjahmlaaBWheel
import Derived.Test.YtbpbfndfjahmlaaBToI
import Derived.Test.YtbpbfndfjahmlaaWh
import Derived.Deep.RegionHeld3
import Derived.Deep.QuietTactic
import Derived.BigQuiet
namespace Go.Proofs.Ytbpbfndfjahmlaa
open Go.RowKit

def whOne (x : Int × Bool) : Bool := inB x.1 2 200
theorem tdivW {a b : Int} (ha : 0 ≤ a) (hb : 0 < b) (h : a ≤ 9223372036854775807) : IntKind.i64.wrap (Int.tdiv a b) = a / b := by
  rw [Int.tdiv_eq_ediv_of_nonneg ha]
  have h0 : 0 ≤ a / b := Int.ediv_nonneg ha (by omega)
  have h1 : a / b ≤ a := Int.ediv_le_self _ ha
  exact wr64 (by omega)
theorem tmodW {a b : Int} (ha : 0 ≤ a) : Int.tmod a b = a % b := Int.tmod_eq_emod_of_nonneg ha

theorem l14Teeth_any (a : Int) (w : World) : Calls Try.prog 23 #[.int .i64 a] w fun e w' => e = .returned (.bool (inB a 2 200)) ∧ w = w' := by
  go_enter Try.func23, Try.ntmps23
  go_wp2_with (go_at_call 12; refine (l00In_any _ _ _ _).mono ?_; rintro e w' ⟨rfl, rfl⟩)
  go_ret
  exact ⟨rfl, rfl⟩

theorem l14Ok_any (r : Int) (A : Option Addr) (n c : Nat) (xs : List (Int × Bool)) (w : World) (h : Sl w 2 eWheel A n xs) (hn : n ≤ 1048577) :
    Calls Try.prog 11 #[.int .i64 r, .slice A n c] w fun e w' => e = .returned (.bool (whOk r xs)) ∧ w = w' := by
  have hl := h.1
  have HW : Hid (whOk r xs = (inB r 2 200 && decide (n ≤ 8) && xs.all whOne)) := by rw [Hid, whOk, hl]; rfl
  go_enter Try.func11, Try.ntmps11
  go_wp2
  go_loop [5] (fun i => ∃ k : Nat, k ≤ n ∧ i = .int .i64 k ∧ Hid ((xs.take k).all whOne = true)) (fun i => n - (intOf i).toNat)
  case atStart => exact ⟨0, by omega, rfl, by simp [Hid]⟩
  case round =>
    obtain ⟨k, hk, rfl, he⟩ := hrel
    by_cases hlt : k < n
    · obtain ⟨b, off, x, rfl, hx, hm, c0, c1⟩ := h.atWheel hlt
      have HX := Lib.hid hx
      clear hx
      go_wp2_with (go_at_call 23; refine (l14Teeth_any _ _).mono ?_; rintro e w' ⟨rfl, rfl⟩)
      · have q1 : inB x.1 2 200 = false := by simpa using (by assumption : (!inB x.1 2 200) = true)
        go_ret
        exact ⟨ret_bool (by have := all_no whOne HX.out q1; rw [HW.out, this]; simp), rfl⟩
      · have q1 : inB x.1 2 200 = true := by simpa using (by assumption : (!inB x.1 2 200) = false)
        go_round
        case rel => exact ⟨k + 1, by omega, by go_num, by rw [Hid, all_step _ HX.out, he.out]; simp [whOne, q1]⟩
        case measure => simp [intOf]; omega
    · have : k = n := by omega
      subst this
      have HALL : Hid (xs.all whOne = true) := by rw [Hid, ← he.out, take_all h.1]
      cases q1 : inB r 2 200
      all_goals by_cases q2 : (k : Int) ≤ 8
      all_goals go_wp2_with (go_at_call 23; refine (l14Teeth_any _ _).mono ?_; rintro e w' ⟨rfl, rfl⟩)
      all_goals go_ret
      all_goals exact ⟨ret_bool (by rw [HW.out, HALL.out, q1]; simp; try omega), rfl⟩

theorem ValidWheels1_any (x : Int × Bool) (w : World) :
    Calls Try.prog 25 #[.agg #[.int .i64 x.1, .bool x.2]] w fun e w' => e = .returned (.bool (!whOne x)) ∧ Below w.heap.size w w' := by
  go_enter Try.func25, Try.ntmps25
  go_wp2_with (go_at_call 18; refine (within_any _ _ _ _).mono ?_; rintro e w' ⟨rfl, rfl⟩)
  go_ret
  exact ⟨rfl, below_alloc _ _⟩

theorem IndexFuncWheel_any (A : Option Addr) (n c : Nat) (xs : List (Int × Bool)) (w : World) (h : Sl w 2 eWheel A n xs) (hn : n ≤ 1048577) :
    Calls Try.prog 27 #[.slice A n c, .func (.func 25) #[] #[]] w fun e w' => e = .returned (.int .i64 (idxI (fun x => !whOne x) xs)) ∧ Below w.heap.size w w' := by
  go_enter Try.func27, Try.ntmps27
  go_wp2
  go_loopw [8] (fun i wr => ∃ k : Nat, k ≤ n ∧ i = .int .i64 k ∧ Hid ((xs.take k).any (fun x => !whOne x) = false) ∧ Below w.heap.size w wr) (fun i _ => n - (intOf i).toNat)
  case atStart => exact ⟨0, by omega, rfl, by simp [Hid], Below.refl _ _⟩
  case round =>
    obtain ⟨k, hk, rfl, he, hb⟩ := hrel
    by_cases hlt : k < n
    · obtain ⟨b, off, x, rfl, hx, hm, c0, c1⟩ := (h.below hb).atWheel hlt
      go_wp2_with (go_at_call 25; refine (ValidWheels1_any x _).mono ?_; rintro e w2 ⟨rfl, hb2⟩)
      · have q1 : (!whOne x) = true := by assumption
        go_ret
        exact ⟨ret_int (by rw [idxI_hit he.out hx q1]), below_mid hb hb2 hb.size⟩
      · have q1 : (!whOne x) = false := by assumption
        go_roundw
        case rel => exact ⟨k + 1, by omega, by go_num, by rw [Hid, any_step _ hx, he.out, q1]; rfl, below_mid hb hb2 hb.size⟩
        case measure => simp [intOf]; omega
    · go_wp2
      go_ret
      have : k = n := by omega
      subst this
      exact ⟨ret_int (by rw [idxI_miss (by rw [← take_all h.1]; exact he.out)]), hb⟩

theorem ContainsFuncWheel_any (A : Option Addr) (n c : Nat) (xs : List (Int × Bool)) (w : World) (h : Sl w 2 eWheel A n xs) (hn : n ≤ 1048577) :
    Calls Try.prog 24 #[.slice A n c, .func (.func 25) #[] #[]] w fun e w' => e = .returned (.bool (xs.any fun x => !whOne x)) ∧ Below w.heap.size w w' := by
  go_enter Try.func24, Try.ntmps24
  go_wp2_with (go_at_call 27; refine (IndexFuncWheel_any A n c xs _ h hn).mono ?_; rintro e w2 ⟨rfl, hb2⟩)
  go_ret
  exact ⟨ret_bool (idxI_nn _ _), hb2⟩

theorem ValidWheels_any (r : Int) (A : Option Addr) (n c : Nat) (xs : List (Int × Bool)) (w : World) (h : Sl w 2 eWheel A n xs) (hn : n ≤ 1048577) :
    Calls Try.prog 17 #[.int .i64 r, .slice A n c] w fun e w' => e = .returned (.bool (whOk r xs)) ∧ Below w.heap.size w w' := by
  have hl := h.1
  have HW : Hid (whOk r xs = (inB r 2 200 && decide (n ≤ 8) && !(xs.any fun x => !whOne x))) := by
    have := any_not_all whOne xs
    rw [Hid, whOk, hl, this]; rfl
  cases q1 : inB r 2 200
  all_goals by_cases q2 : (n : Int) ≤ 8
  all_goals go_enter Try.func17, Try.ntmps17
  all_goals go_wp2_with (first | (go_at_call 18; refine (within_any _ _ _ _).mono ?_; rintro e w' ⟨rfl, rfl⟩) | (go_at_call 24; refine (ContainsFuncWheel_any A n c xs _ h hn).mono ?_; rintro e w2 ⟨rfl, hb2⟩))
  all_goals go_ret
  all_goals first
    | exact ⟨ret_bool (by rw [HW.out, q1]; simp; try omega), hb2⟩
    | exact ⟨ret_bool (by rw [HW.out, q1]; simp; try omega), Below.refl _ _⟩

theorem l14Place_any (x : Int × Bool) (b q : Nat) (t : Int) (w : World) (ht : 0 ≤ t ∧ t ≤ 100000000000000) (hx : 2 ≤ x.1 ∧ x.1 ≤ 200) (c0 : w.cell? ⟨b, q, none⟩ = some (.int .i64 x.1)) (c1 : w.cell? ⟨b, q + 1, none⟩ = some (.bool x.2)) :
    Calls Try.prog 14 #[.pointer (some ⟨b, q, none⟩), .int .i64 t] w fun e w' => e = .returned (.int .i64 (whP x t)) ∧ w = w' := by
  obtain ⟨T, B⟩ := x
  have HP := Lib.hid (whP_back (x := (T, B)) (t := t) hx.1)
  simp only at hx c0 c1
  have hz : (T == 0) = false := by rw [beq_eq_false_iff_ne]; omega
  have m1 : Int.tmod t T = t % T := tmodW ht.1
  have e1 := Int.emod_nonneg t (show T ≠ 0 by omega)
  have e2 := Int.emod_lt_of_pos t (show 0 < T by omega)
  cases B
  all_goals by_cases hq : 0 < t % T
  all_goals go_enter Try.func14, Try.ntmps14
  all_goals go_wp2
  all_goals go_ret
  all_goals exact ⟨ret_int (by rw [HP.out]; (try simp [hq]); (try omega)), rfl⟩

theorem place_any (x : Int × Bool) (t : Int) (w : World) (ht : 0 ≤ t ∧ t ≤ 100000000000000) (hx : 2 ≤ x.1 ∧ x.1 ≤ 200) :
    Calls Try.prog 20 #[.agg #[.int .i64 x.1, .bool x.2], .int .i64 t] w fun e w' => e = .returned (.int .i64 (whP x t)) ∧ Below w.heap.size w w' := by
  obtain ⟨T, B⟩ := x
  have HP : Hid (whP (T, B) t = if B then (T - t % T) % T else t % T) := rfl
  simp only at hx
  have hz : (T == 0) = false := by rw [beq_eq_false_iff_ne]; omega
  have e1 := Int.emod_nonneg t (show T ≠ 0 by omega)
  have e2 := Int.emod_lt_of_pos t (show 0 < T by omega)
  have m1 : Int.tmod t T = t % T := tmodW ht.1
  have m2 : Int.tmod (T - t % T) T = (T - t % T) % T := tmodW (by omega)
  have r1 : IntKind.i64.wrap (T - t % T) = T - t % T := wr64 (by omega)
  cases B
  · go_enter Try.func20, Try.ntmps20
    go_wp2
    go_ret
    exact ⟨ret_int (by rw [HP.out]; rfl), below_alloc _ _⟩
  · have c0 : (w.alloc (.cells #[.int .i64 T, .bool true] 36)).cell? ⟨w.heap.size, 0, none⟩ = some (.int .i64 T) := by simp [go_sem]
    have c1 : (w.alloc (.cells #[.int .i64 T, .bool true] 36)).cell? ⟨w.heap.size, 1, none⟩ = some (.bool true) := by simp [go_sem]
    have hW := below_alloc w (.cells #[.int .i64 T, .bool true] 36)
    go_enter Try.func20, Try.ntmps20
    go_wp2_with fail
    generalize w.alloc (.cells #[.int .i64 T, .bool true] 36) = W1 at c0 c1 hW ⊢
    go_quiet (fail)
    go_wp2_with fail
    go_ret
    exact ⟨ret_int (by rw [HP.out]; simp), below_drewN hW _⟩

theorem commonW_any (a b : Int) (w : World) (ha : 1 ≤ a ∧ a ≤ 9223372036854775807) (hb : 1 ≤ b ∧ b ≤ 200) (hB : rtF a b ≤ 9223372036854775807) :
    Calls Try.prog 21 #[.int .i64 a, .int .i64 b] w fun e w' => e = .returned (.int .i64 (rtF a b)) ∧ Below w.heap.size w w' := by
  have q := rtF_quo ha.1 hb.1
  have q2 := rtF_bd ha.1 hb.1
  have HP : Hid (rtF a b = a / fracG a b * b) := rfl
  have q3 : a / fracG a b * b ≤ 9223372036854775807 := hB
  have q4 : 1 ≤ a / fracG a b * b := by have := q2.1; rw [HP.out] at this; omega
  clear hB q2
  have hz : (fracG a b == 0) = false := by rw [beq_eq_false_iff_ne]; omega
  have r1 : IntKind.i64.wrap (Int.tdiv a (fracG a b)) = a / fracG a b := tdivW (by omega) (by omega) (by omega)
  have r2 : IntKind.i64.wrap (a / fracG a b * b) = a / fracG a b * b := wr64 (by omega)
  go_enter Try.func21, Try.ntmps21
  go_wp2_with fail
  refine (gcd_any a b _ (by omega) (by omega) (by omega) (by omega)).mono ?_
  rintro e w2 ⟨rfl, hb2⟩
  go_wp2_with fail
  go_ret
  exact ⟨ret_int HP.out.symm, hb2⟩

theorem returnAfter_any (A : Option Addr) (n c : Nat) (xs : List (Int × Bool)) (w : World) (h : Sl w 2 eWheel A n xs) (hn : n ≤ 8) (ok : ∀ x ∈ xs, 2 ≤ x.1 ∧ x.1 ≤ 200) :
    Calls Try.prog 19 #[.slice A n c] w fun e w' => e = .returned (.int .i64 (rtK xs n)) ∧ Below w.heap.size w w' := by
  go_enter Try.func19, Try.ntmps19
  go_wp2
  go_loopw [3, 8] (fun q i wr => ∃ k : Nat, k ≤ n ∧ i = .int .i64 k ∧ q = .int .i64 (rtK xs k) ∧ Below w.heap.size w wr) (fun _ i _ => n - (intOf i).toNat)
  case atStart => exact ⟨0, by omega, rfl, rfl, Below.refl _ _⟩
  case round =>
    obtain ⟨k, hk, rfl, rfl, hb⟩ := hrel
    by_cases hlt : k < n
    · obtain ⟨b, off, x, rfl, hx, hm, c0, c1⟩ := (h.below hb).atWheel hlt
      have hx1 := ok x hm
      have HS := Lib.hid (rtK_step hx)
      have hp := (rtK_pos ok k).1
      have hq := rtK_bd8 ok (show k ≤ 8 by omega)
      have hq2 := rtK_bd8 ok (show k + 1 ≤ 8 by omega)
      have hB : rtF (rtK xs k) x.1 ≤ 9223372036854775807 := by rw [← HS.out]; omega
      clear hx
      go_wp2_with fail
      refine (commonW_any (rtK xs k) x.1 _ (by omega) (by omega) hB).mono ?_
      rintro e w5 ⟨rfl, hb5⟩
      go_wp2_with fail
      go_roundw
      case rel => exact ⟨k + 1, by omega, by go_num, by rw [HS.out], below_mid hb (below_step (below_alloc _ _) hb5) hb.size⟩
      case measure => simp [intOf]; omega
    · have : k = n := by omega
      subst this
      go_wp2_with fail
      go_ret
      exact ⟨rfl, hb⟩

theorem l14Return_any (A : Option Addr) (n c : Nat) (xs : List (Int × Bool)) (w : World) (h : Sl w 2 eWheel A n xs) (hn : n ≤ 8) (ok : ∀ x ∈ xs, 2 ≤ x.1 ∧ x.1 ≤ 200) :
    Calls Try.prog 13 #[.slice A n c] w fun e w' => e = .returned (.int .i64 (rtS xs)) ∧ Below w.heap.size w w' := by
  have hl := h.1
  go_enter Try.func13, Try.ntmps13
  go_wp2
  go_loopw [3, 4] (fun q i wr => ∃ k : Nat, k ≤ n ∧ i = .int .i64 k ∧ q = .int .i64 (rtK xs k) ∧ rtK xs k ≤ 1000000000 ∧ Below w.heap.size w wr) (fun _ i _ => n - (intOf i).toNat)
  case atStart => exact ⟨0, by omega, rfl, rfl, by simp [rtK], Below.refl _ _⟩
  case round =>
    obtain ⟨k, hk, rfl, rfl, hk9, hb⟩ := hrel
    by_cases hlt : k < n
    · obtain ⟨b, off, x, rfl, hx, hm, c0, c1⟩ := (h.below hb).atWheel hlt
      have hx1 := ok x hm
      have HS := Lib.hid (rtK_step hx)
      have hp := (rtK_pos ok k).1
      have q1 := rtF_quo hp (show 1 ≤ x.1 by omega)
      have q2 := rtF_bd hp (show 1 ≤ x.1 by omega)
      have HF : Hid (rtF (rtK xs k) x.1 = rtK xs k / fracG (rtK xs k) x.1 * x.1) := rfl
      have hmx : rtK xs k * x.1 ≤ 1000000000 * 200 := Int.mul_le_mul hk9 hx1.2 (by omega) (by omega)
      have g1 : (0 : Int) ≤ (k : Int) := by omega
      have g2 : (k : Int) < (n : Int) := by omega
      have hz : (fracG (rtK xs k) x.1 == 0) = false := by rw [beq_eq_false_iff_ne]; omega
      have r1 : IntKind.i64.wrap (Int.tdiv (rtK xs k) (fracG (rtK xs k) x.1)) = rtK xs k / fracG (rtK xs k) x.1 := tdivW (by omega) (by omega) (by omega)
      have r2 : IntKind.i64.wrap (rtK xs k / fracG (rtK xs k) x.1 * x.1) = rtF (rtK xs k) x.1 := wr64 (show _ ≤ rtF (rtK xs k) x.1 ∧ rtF (rtK xs k) x.1 ≤ _ by omega)
      clear hx
      by_cases hq : 1000000000 < rtF (rtK xs k) x.1
      · have H1 : Hid (rtS xs = 0) := by
          have := rtK_le ok (show k + 1 ≤ xs.length by omega)
          rw [Hid, rtS, if_pos (by rw [HS.out] at this; omega)]
        go_wp2_with fail
        go_quiet ((go_at_call 15; exact quiet_left (l00Gcd_any _ _ _ (by omega) (by omega) (by omega) (by omega))))
        clear r1 r2
        go_wp2_with fail
        go_ret
        exact ⟨ret_int H1.out.symm, below_drewN hb _⟩
      · go_wp2_with fail
        go_quiet ((go_at_call 15; exact quiet_left (l00Gcd_any _ _ _ (by omega) (by omega) (by omega) (by omega))))
        clear r1 r2
        go_wp2_with fail
        go_roundw
        case rel => exact ⟨k + 1, by omega, by go_num, by rw [HS.out], by rw [HS.out]; omega, below_drewN hb _⟩
        case measure => simp [intOf]; omega
    · have : k = n := by omega
      subst this
      have H1 : Hid (rtS xs = rtK xs k) := by rw [Hid, rtS, hl, if_neg (by omega)]
      go_wp2_with fail
      go_ret
      exact ⟨ret_int H1.out.symm, hb⟩

end Go.Proofs.Ytbpbfndfjahmlaa
