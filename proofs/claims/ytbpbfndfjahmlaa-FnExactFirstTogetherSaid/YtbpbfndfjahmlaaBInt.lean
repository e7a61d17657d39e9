/-
  The laws' helpers on slices of int64.
-/
import Derived.Test.YtbpbfndfjahmlaaBase
namespace Go.Proofs.Ytbpbfndfjahmlaa
open Go.RowKit

theorem infoI64 : (Try.prog.info? 2).map (fun i => (i.zero, i.size, i.bytes)) = some (some (.int .i64 0), 1, 8) := by kernel_rfl
theorem wr64 {n : Int} (h : -9223372036854775808 ≤ n ∧ n ≤ 9223372036854775807) : IntKind.i64.wrap n = n := IntWalk.i64_in _ h

theorem eqInt64S_any (A : Option Addr) (n c : Nat) (xs : List Int) (B : Option Addr) (m d : Nat) (ys : List Int) (w : World) (h : Sl w 1 e1 A n xs) (hn : n ≤ 1048577) (h' : Sl w 1 e1 B m ys) (hm : m ≤ 1048577) :
    Calls Try.prog 10 #[.slice A n c, .slice B m d] w fun e w' => e = .returned (.bool (decide (xs = ys))) ∧ Below w.heap.size w w' := by
  by_cases hnm : n = m
  · subst hnm
    go_enter Try.func10, Try.ntmps10
    go_wp2
    go_loopw [5] (fun i wr => ∃ k : Nat, k ≤ n ∧ i = .int .i64 k ∧ Hid (xs.take k = ys.take k) ∧ Below w.heap.size w wr) (fun i _ => n - (intOf i).toNat)
    case atStart => exact ⟨0, by omega, rfl, by simp [Hid], Below.refl _ _⟩
    case round =>
      obtain ⟨k, hk, rfl, he, hb⟩ := hrel
      by_cases hlt : k < n
      · obtain ⟨b, off, x, rfl, hx, _, c0⟩ := (h.below hb).at1 hlt
        obtain ⟨b', off', y, rfl, hy, _, d0⟩ := (h'.below hb).at1 hlt
        cases q1 : (x != y)
        · go_wp2_with fail
          go_quiet (fail)
          go_wp2_with fail
          go_roundw
          case rel => exact ⟨k + 1, by omega, by go_num, take_eq_step he.out hx hy (by simpa using q1), below_drewN hb _⟩
          case measure => simp [intOf]; omega
        · go_wp2_with fail
          go_quiet (fail)
          go_wp2_with fail
          go_ret
          exact ⟨ret_bool (by have := ne_of_get hx hy (by simpa using q1); simp [this]), below_drewN hb _⟩
      · go_wp2
        go_ret
        have : k = n := by omega
        subst this
        exact ⟨ret_bool (by have := eq_of_take he.out h.1 h'.1; simp [this]), hb⟩
  · have hne : xs ≠ ys := fun e => hnm (by rw [← h.1, ← h'.1, e])
    have H := Lib.hid hne; clear hne
    go_enter Try.func10, Try.ntmps10
    go_wp2
    go_ret
    exact ⟨ret_bool (by simp [H.out]), Below.refl _ _⟩

end Go.Proofs.Ytbpbfndfjahmlaa
