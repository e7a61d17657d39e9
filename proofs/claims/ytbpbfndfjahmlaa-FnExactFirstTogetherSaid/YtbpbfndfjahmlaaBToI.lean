/-
  A copy of a slice of numbers.
-/
import Derived.Test.YtbpbfndfjahmlaaBInt
namespace Go.Proofs.Ytbpbfndfjahmlaa
open Go.RowKit

theorem toInt64S_any (A : Option Addr) (n c : Nat) (xs : List Int) (w : World) (h : Sl w 1 e1 A n xs) (hn : n ≤ 1048576) :
    Calls Try.prog 7 #[.slice A n c] w fun e w' => e = .returned (.slice (some ⟨w.heap.size, 0, none⟩) n n) ∧ Own w' w.heap.size 2 1 e1 (.slice (some ⟨w.heap.size, 0, none⟩) n n) xs ∧ Below w.heap.size w w' := by
  obtain ⟨i0, hi0, hz0, hz1, hz2⟩ := info_parts infoI64
  go_enter Try.func7, Try.ntmps7
  go_wp2_with (with_reducible refine wpList_make_full _ rfl (.tmp 6) (.tmp 6) 23 rfl w.heap.size 2 i0 _ 1 Try.underlying23 hi0 hz0 hz1 .i64 .i64 n n n rfl rfl rfl rfl (by rw [hz2]; omega) (by unfold maxLen; omega) (Nat.le_refl _) ?_; intro w1 hown1 hg1)
  have ho1 : Own w1 w.heap.size 2 1 e1 (.slice (some ⟨w.heap.size, 0, none⟩) n n) (mixK (0 : Int) xs n 0) :=
    Own.of_row hown1 (by rw [mixK_zero]; simp) (by rw [mixK_zero]; exact madeK e1_len (by omega) (0 : Int) n)
  have hb1 : Below w.heap.size w w1 := (Below.refl _ _).grown hg1 (Nat.le_refl _) (by simp)
  go_loopw [4] (fun i wr => ∃ k : Nat, k ≤ n ∧ i = .int .i64 k ∧ Own wr w.heap.size 2 1 e1 (.slice (some ⟨w.heap.size, 0, none⟩) n n) (mixK (0 : Int) xs n k) ∧ Below w.heap.size w wr) (fun i _ => n - (intOf i).toNat)
  case atStart => exact ⟨0, by omega, rfl, ho1, hb1⟩
  case round =>
    obtain ⟨k, hk, rfl, ho, hb⟩ := hrel
    by_cases hlt : k < n
    · obtain ⟨b, off, x, rfl, hx, _, c0⟩ := (h.below hb).at1 hlt
      have d0 : wr.cell? ⟨w.heap.size, k, none⟩ = some (.int .i64 0) := by simpa using ho.cell e1_len (mixK_get _ h.1 hlt) (j := 0) rfl
      have g0 := ho.free k
      go_wp2
      go_roundw
      case rel => exact ⟨k + 1, by omega, by go_num, by rw [← mixK_set _ h.1 hx]; exact ho.set1 k x, hb.setCell (by simp) _⟩
      case measure => simp [intOf]; omega
    · go_wp2
      go_ret
      have : k = n := by omega
      subst this
      refine ⟨rfl, ?_, hb⟩
      rw [mixK_all _ _ _ h.1] at ho
      exact ho
end Go.Proofs.Ytbpbfndfjahmlaa
