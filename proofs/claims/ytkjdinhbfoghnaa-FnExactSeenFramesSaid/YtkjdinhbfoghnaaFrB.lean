/-
  Contracts of the functions on frames: begins and the total.
-/
import Derived.Test.YtkjdinhbfoghnaaFrA
import Derived.Test.YtkjdinhbfoghnaaBInt
namespace Go.Proofs.Ytkjdinhbfoghnaa
open Go.RowKit


theorem l16Total_any (A : Option Addr) (n c : Nat) (xs : List (Int × Int)) (w : World) (h : Sl w 2 e2 A n xs) (ok : FrOk xs) :
    Calls Try.prog 51 #[.slice A n c] w fun e w' => e = .returned (.int .i64 (tot xs)) ∧ Below w.heap.size w w' := by
  have hn : n ≤ 60 := by rw [← h.1]; exact ok.len
  go_enter Try.func51, Try.ntmps51
  go_wp2
  go_loopw [3, 4] (fun s i wr => ∃ k : Nat, k ≤ n ∧ i = .int .i64 k ∧ s = .int .i64 (begK xs k) ∧ Below w.heap.size w wr) (fun _ i _ => n - (intOf i).toNat)
  case atStart => exact ⟨0, by omega, rfl, by simp [begK, sumI], Below.refl _ _⟩
  case round =>
    obtain ⟨k, hk, rfl, rfl, hb⟩ := hrel
    by_cases hlt : k < n
    · obtain ⟨b, off, x, rfl, hx, hm, c0, c1⟩ := (h.below hb).at2 hlt
      have hb1 := ok.one x hm
      have hb2 := ok.beg_bd k
      have hs := begK_step hx
      have r1 : IntKind.i64.wrap (x.1 + x.2) = x.1 + x.2 := wr64 (by omega)
      have r2 : IntKind.i64.wrap (begK xs k + (x.1 + x.2)) = begK xs k + (x.1 + x.2) := wr64 (by omega)
      have HS := Lib.hid hs; clear hs
      go_wp2_with fail
      go_quiet (fail)
      clear r1 r2
      go_wp2_with fail
      go_roundw
      case rel => exact ⟨k + 1, by omega, by go_num, by rw [HS.out], below_drewN hb _⟩
      case measure => simp [intOf]; omega
    · go_wp2
      go_ret
      have : k = n := by omega
      subst this
      exact ⟨ret_int (by rw [← h.1, begK_len]), hb⟩

def totVal (xs : List (Int × Int)) : Int := if frOk xs then tot xs else 0
def totCode (xs : List (Int × Int)) : Int := if frOk xs then 0 else 1

theorem specTotalMillis_any (A : Option Addr) (n c : Nat) (xs : List (Int × Int)) (w : World) (h : Sl w 2 e2 A n xs) (hn : n ≤ 1048577) :
    Calls Try.prog 24 #[.slice A n c] w fun e w' => e = .returned (.tuple #[.int .i64 (totVal xs), .int .i64 (totCode xs)]) ∧ Below w.heap.size w w' := by
  cases hok : frOk xs
  all_goals
    go_enter Try.func24, Try.ntmps24
    go_wp2_with (first | (go_at_call 45; refine (l16Ok_any A n c xs _ h hn).mono ?_; rintro e w' ⟨rfl, rfl⟩) | (go_at_call 51; refine (l16Total_any A n c xs _ h (frOk_iff.1 hok)).mono ?_; rintro e w2 ⟨rfl, hb2⟩))
    go_ret2
    exact ⟨by simp [totVal, totCode, hok], by first | exact Below.refl _ _ | assumption⟩


theorem begins_any (A : Option Addr) (n c : Nat) (xs : List (Int × Int)) (w : World) (h : Sl w 2 e2 A n xs) (ok : FrOk xs) :
    Calls Try.prog 54 #[.slice A n c] w (RetOwn 2 1 e1 (begs xs) w) := by
  obtain ⟨i0, hi0, hz0, hz1, hz2⟩ := info_parts infoI64
  have hn : n ≤ 60 := by rw [← h.1]; exact ok.len
  go_enter Try.func54, Try.ntmps54
  go_wp2
  have hst : Own (w.alloc (.cells #[.int .i64 0] 2)) w.heap.size 2 1 e1 (.slice (some ⟨w.heap.size, 0, none⟩) 1 1) (begsTo xs 0) := by
    rw [begsTo_zero]; exact Own.lit w _ _ [0] 1 (Nat.le_refl _) rfl (by simp [maxLen]) e1_len rfl
  go_loopw [3, 4, 10] (fun v s i wr => ∃ k : Nat, k ≤ n ∧ i = .int .i64 k ∧ s = .int .i64 (begK xs k) ∧ Own wr w.heap.size 2 1 e1 v (begsTo xs k) ∧ Below w.heap.size w wr) (fun _ _ i _ => n - (intOf i).toNat)
  case atStart => exact ⟨0, by omega, rfl, by simp [begK, sumI], hst, below_alloc _ _⟩
  case round =>
    obtain ⟨k, hk, rfl, rfl, ho, hb⟩ := hrel
    by_cases hlt : k < n
    · obtain ⟨b, off, x, rfl, hx, hm, c0, c1⟩ := (h.below hb).at2 hlt
      have hb1 := ok.one x hm
      have hb2 := ok.beg_bd k
      have hs := begK_step hx
      have HS := Lib.hid hs; clear hs
      have hlen := begsTo_len xs k
      have HL := Lib.hid hlen; clear hlen
      go_wp2_with (at_builtin; refine wpList_app1 rfl (.tmp 21) (.tmp 23) 45 2 rfl w.heap.size i0 _ 1 8 Try.underlying45 hi0 hz0 hz1 hz2 rfl (by decide) e1 e1_len e1_one _ (begsTo xs k) rfl ((ho.alloc _).alloc _) (begK xs k + (x.1 + x.2)) _ _ rfl (newcell _ _ _ _ (by simp)) (by rw [HL.out]; omega) (by rw [HL.out]; unfold maxLen; omega) (by have := hb.size; simp; omega) ?_; intro v' w2 ho2 hb2)
      go_roundw
      case rel => exact ⟨k + 1, by omega, by go_num, by rw [HS.out], by rw [begsTo_succ, HS.out]; exact ho2, ((hb.alloc hb.size _).alloc (by have := hb.size; simp; omega) _).trans hb2⟩
      case measure => simp [intOf]; omega
    · go_wp2
      go_ret
      have : k = n := by omega
      subst this
      rw [show k = xs.length from h.1.symm, begsTo_all] at ho
      exact RetOwn.mk ho hb
end Go.Proofs.Ytkjdinhbfoghnaa
