/-
  The laws' helpers on slices of int64.
-/
import Derived.Test.YtcfbnlkkoifiiaaBase
namespace Go.Proofs.Ytcfbnlkkoifiiaa
open Go.RowKit

theorem infoI64 : (Try.prog.info? 2).map (fun i => (i.zero, i.size, i.bytes)) = some (some (.int .i64 0), 1, 8) := by kernel_rfl
theorem wr64 {n : Int} (h : -9223372036854775808 ≤ n ∧ n ≤ 9223372036854775807) : IntKind.i64.wrap n = n := IntWalk.i64_in _ h

theorem eqInt64S_any (A : Option Addr) (n c : Nat) (xs : List Int) (B : Option Addr) (m d : Nat) (ys : List Int) (w : World) (h : Sl w 1 e1 A n xs) (hn : n ≤ 1048577) (h' : Sl w 1 e1 B m ys) (hm : m ≤ 1048577) :
    Calls Try.prog 9 #[.slice A n c, .slice B m d] w fun e w' => e = .returned (.bool (decide (xs = ys))) ∧ Below w.heap.size w w' := by
  by_cases hnm : n = m
  · subst hnm
    go_enter Try.func9, Try.ntmps9
    go_wp2
    go_loopw [5] (fun i wr => ∃ k : Nat, k ≤ n ∧ i = .int .i64 k ∧ Hid (xs.take k = ys.take k) ∧ Below w.heap.size w wr) (fun i _ => n - (intOf i).toNat)
    case atStart => exact ⟨0, by omega, rfl, by simp [Hid], Below.refl _ _⟩
    case round =>
      obtain ⟨k, hk, rfl, he, hb⟩ := hrel
      by_cases hlt : k < n
      · obtain ⟨b, off, x, rfl, hx, _, c0⟩ := (h.below hb).at1 hlt
        obtain ⟨b', off', y, rfl, hy, _, d0⟩ := (h'.below hb).at1 hlt
        cases q1 : (x != y)
        · go_wp2_with fail
          go_quiet (fail)
          go_wp2_with fail
          go_roundw
          case rel => exact ⟨k + 1, by omega, by go_num, take_eq_step he.out hx hy (by simpa using q1), below_drewN hb _⟩
          case measure => simp [intOf]; omega
        · go_wp2_with fail
          go_quiet (fail)
          go_wp2_with fail
          go_ret
          exact ⟨ret_bool (by have := ne_of_get hx hy (by simpa using q1); simp [this]), below_drewN hb _⟩
      · go_wp2
        go_ret
        have : k = n := by omega
        subst this
        exact ⟨ret_bool (by have := eq_of_take he.out h.1 h'.1; simp [this]), hb⟩
  · have hne : xs ≠ ys := fun e => hnm (by rw [← h.1, ← h'.1, e])
    have H := Lib.hid hne; clear hne
    go_enter Try.func9, Try.ntmps9
    go_wp2
    go_ret
    exact ⟨ret_bool (by simp [H.out]), Below.refl _ _⟩

theorem markInt64S_at (g n c : Nat) (base : Nat) (k0 : Int) (xs : List Int) (w : World) (h : Own w base 2 1 e1 (.slice (some ⟨g, 0, none⟩) n c) xs) (hn : n ≤ 1048577) (hk0 : 0 ≤ k0) (hk1 : k0 ≤ 16777216) :
    Calls Try.prog 12 #[.slice (some ⟨g, 0, none⟩) n c, .int .i64 k0] w fun e w' => e = .returned (.int .i64 (k0 + n * 1)) ∧ Own w' base 2 1 e1 (.slice (some ⟨g, 0, none⟩) n c) (marks1 k0 n) ∧ w.grownBy w' (some g) := by
  have hl : xs.length = n := (h.sl e1_len).1
  go_enter Try.func12, Try.ntmps12
  go_wp2
  go_loopw [1, 5] (fun q i wr => ∃ k : Nat, k ≤ n ∧ i = .int .i64 k ∧ q = .int .i64 (k0 + k) ∧ Own wr base 2 1 e1 (.slice (some ⟨g, 0, none⟩) n c) (overK (marks1 k0 n) xs k) ∧ w.grownBy wr (some g)) (fun _ i _ => n - (intOf i).toNat)
  case atStart => exact ⟨0, by omega, rfl, by simp, by simpa [overK] using h, World.grownBy.refl _ _⟩
  case round =>
    obtain ⟨k, hk, rfl, rfl, ho, hg⟩ := hrel
    by_cases hlt : k < n
    · obtain ⟨y, _, hy⟩ := overK_get (marks1_len k0 n) hl hlt
      have d0 : wr.cell? ⟨g, k, none⟩ = some (.int .i64 y) := by simpa using ho.cell e1_len hy (j := 0) rfl
      have g0 := ho.free k
      go_wp2
      go_roundw
      case rel => exact ⟨k + 1, by omega, by go_num, by go_num, by rw [← overK_set (marks1_len k0 n) hl (marks1_get k0 hlt)]; exact ho.set1 k (k0 + k), only_setCell hg (.inl rfl) _⟩
      case measure => simp [intOf]; omega
    · go_wp2
      go_ret
      have : k = n := by omega
      subst this
      exact ⟨ret_int (by omega), by rw [← overK_all (marks1_len k0 k) hl]; exact ho, hg⟩
theorem markInt64S_any (A : Option Addr) (n c : Nat) (base : Nat) (k0 : Int) (xs : List Int) (w : World) (h : Own w base 2 1 e1 (.slice A n c) xs) (hn : n ≤ 1048577) (hk0 : 0 ≤ k0) (hk1 : k0 ≤ 16777216) :
    Calls Try.prog 12 #[.slice A n c, .int .i64 k0] w fun e w' => e = .returned (.int .i64 (k0 + n * 1)) ∧ Own w' base 2 1 e1 (.slice A n c) (marks1 k0 n) ∧ w.grownBy w' (Value.slice A n c).ownBlock := by
  rcases h.form with ⟨rfl, rfl, rfl, rfl⟩ | ⟨g, rfl⟩
  · go_enter Try.func12, Try.ntmps12
    go_wp2
    refine wp_loop_rounds 1 ?_
    rw [rounds_succ]
    go_wp2
    go_ret
    exact ⟨by simp, h, World.grownBy.refl _ _⟩
  · exact markInt64S_at g n c base k0 xs w h hn hk0 hk1

theorem heldInt64S_any (A : Option Addr) (n c : Nat) (k0 : Int) (w : World) (h : Sl w 1 e1 A n (marks1 k0 n)) (hn : n ≤ 1048577) (hk0 : 0 ≤ k0) (hk1 : k0 ≤ 16777216) :
    Calls Try.prog 13 #[.slice A n c, .int .i64 k0] w fun e w' => e = .returned (.int .i64 (k0 + n * 1)) ∧ w = w' := by
  go_enter Try.func13, Try.ntmps13
  go_wp2
  go_loop [1, 5] (fun q i => ∃ k : Nat, k ≤ n ∧ i = .int .i64 k ∧ q = .int .i64 (k0 + k)) (fun _ i => n - (intOf i).toNat)
  case atStart => exact ⟨0, by omega, rfl, by simp⟩
  case round =>
    obtain ⟨k, hk, rfl, rfl⟩ := hrel
    by_cases hlt : k < n
    · obtain ⟨b, off, x, rfl, hx, _, c0⟩ := h.at1 hlt
      rw [marks1_get k0 hlt] at hx
      cases hx
      go_wp2
      go_round
      case rel => exact ⟨k + 1, by omega, by go_num, by go_num⟩
      case measure => simp [intOf]; omega
    · go_wp2
      go_ret
      have : k = n := by omega
      subst this
      exact ⟨ret_int (by omega), rfl⟩
end Go.Proofs.Ytcfbnlkkoifiiaa
