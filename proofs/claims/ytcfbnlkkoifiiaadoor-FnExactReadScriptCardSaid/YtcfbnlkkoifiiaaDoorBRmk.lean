/-
  The laws' helpers on the struct Remark.
-/
import Derived.Test.YtcfbnlkkoifiiaaDoorBase
import Derived.Laws.StructEq
namespace Go.Proofs.YtcfbnlkkoifiiaaDoor
set_option maxRecDepth 100000
open Go.RowKit

theorem eqRemark_any (x y : (Int × Int)) (w : World) :
    Calls Tryd.prog 19 #[.agg #[.int .i64 x.1, .int .i64 x.2], .agg #[.int .i64 y.1, .int .i64 y.2]] w fun e w' => e = .returned (.bool (decide (x = y))) ∧ Below w.heap.size w w' := by
  have hxy : (x = y) ↔ x.1 = y.1 ∧ x.2 = y.2 := by simp [Prod.ext_iff]
  have H := Lib.hid hxy; clear hxy
  go_enter Tryd.func19, Tryd.ntmps19
  go_wp2
  all_goals go_ret
  all_goals refine ⟨ret_bool ?_, (((Below.refl _ _).alloc (by simp) _).alloc (by simp) _)⟩
  all_goals first
    | (have h := (by assumption : (x.1 != y.1) = true); simp at h; simp [H.out, h])
    | (have h := (by assumption : (x.2 != y.2) = true); simp at h; simp [H.out, h])
    | (have g0 := (by assumption : (x.1 != y.1) = false); have g1 := (by assumption : (x.2 != y.2) = false); simp at g0 g1; simp [H.out, g0, g1])

theorem infoRemark : (Tryd.prog.info? 39).map (fun i => (i.zero, i.size, i.bytes)) = some (some (.agg #[.int .i64 0, .int .i64 0]), 2, 16) := by kernel_rfl

theorem eqRemarkS_any (A : Option Addr) (n c : Nat) (xs : List (Int × Int)) (B : Option Addr) (m d : Nat) (ys : List (Int × Int)) (w : World) (h : Sl w 2 e2 A n xs) (hn : n ≤ 1048577) (h' : Sl w 2 e2 B m ys) (hm : m ≤ 1048577) :
    Calls Tryd.prog 7 #[.slice A n c, .slice B m d] w fun e w' => e = .returned (.bool (decide (xs = ys))) ∧ Below w.heap.size w w' := by
  by_cases hnm : n = m
  · subst hnm
    go_enter Tryd.func7, Tryd.ntmps7
    go_wp2
    go_loopw [5] (fun i wr => ∃ k : Nat, k ≤ n ∧ i = .int .i64 k ∧ Hid (xs.take k = ys.take k) ∧ Below w.heap.size w wr) (fun i _ => n - (intOf i).toNat)
    case atStart => exact ⟨0, by omega, rfl, by simp [Hid], Below.refl _ _⟩
    case round =>
      obtain ⟨k, hk, rfl, he, hb⟩ := hrel
      by_cases hlt : k < n
      · obtain ⟨b, off, x, rfl, hx, _, c0, c1⟩ := (h.below hb).at2 hlt
        obtain ⟨b', off', y, rfl, hy, _, d0, d1⟩ := (h'.below hb).at2 hlt
        have hbd := hb.drew
        go_wp2_with fail
        go_still_tail 8, (by kernel_rfl)
        change wpList _ _ _ _ _ wr.drew
        generalize wr.drew = w2 at hbd ⊢
        go_wp2_with (go_at_call 19; refine (eqRemark_any x y _).mono ?_; rintro e w3 ⟨rfl, hb3⟩)
        · have q1 : (!decide (x = y)) = true := by assumption
          go_ret
          exact ⟨ret_bool (by have := ne_of_get hx hy (by simpa using q1); simp [this]), below_mid hbd hb3 hbd.size⟩
        · have q1 : (!decide (x = y)) = false := by assumption
          go_roundw
          case rel => exact ⟨k + 1, by omega, by go_num, take_eq_step he.out hx hy (by simpa using q1), below_mid hbd hb3 hbd.size⟩
          case measure => simp [intOf]; omega
      · go_wp2
        go_ret
        have : k = n := by omega
        subst this
        exact ⟨ret_bool (by have := eq_of_take he.out h.1 h'.1; simp [this]), hb⟩
  · have hne : xs ≠ ys := fun e => hnm (by rw [← h.1, ← h'.1, e])
    have H := Lib.hid hne; clear hne
    go_enter Tryd.func7, Tryd.ntmps7
    go_wp2
    go_ret
    exact ⟨ret_bool (by simp [H.out]), Below.refl _ _⟩

set_option maxHeartbeats 1000000 in
theorem markRemarkS_at (g n c : Nat) (base : Nat) (k0 : Int) (xs : List (Int × Int)) (w : World) (h : Own w base 39 2 e2 (.slice (some ⟨g, 0, none⟩) n c) xs) (hn : n ≤ 1048577) (hk0 : 0 ≤ k0) (hk1 : k0 ≤ 16777216) :
    Calls Tryd.prog 9 #[.slice (some ⟨g, 0, none⟩) n c, .int .i64 k0] w fun e w' => e = .returned (.int .i64 (k0 + n * 2)) ∧ Own w' base 39 2 e2 (.slice (some ⟨g, 0, none⟩) n c) (marks2 k0 n) ∧ w.grownBy w' (some g) := by
  have hl : xs.length = n := (h.sl e2_len).1
  go_enter Tryd.func9, Tryd.ntmps9
  go_wp2
  go_loopw [1, 5] (fun q i wr => ∃ k : Nat, k ≤ n ∧ i = .int .i64 k ∧ q = .int .i64 (k0 + k * 2) ∧ Own wr base 39 2 e2 (.slice (some ⟨g, 0, none⟩) n c) (overK (marks2 k0 n) xs k) ∧ w.grownBy wr (some g)) (fun _ i _ => n - (intOf i).toNat)
  case atStart => exact ⟨0, by omega, rfl, by simp, by simpa [overK] using h, World.grownBy.refl _ _⟩
  case round =>
    obtain ⟨k, hk, rfl, rfl, ho, hg⟩ := hrel
    by_cases hlt : k < n
    · obtain ⟨y, _, hy⟩ := overK_get (marks2_len k0 n) hl hlt
      have d0 : wr.cell? ⟨g, k * 2, none⟩ = some (.int .i64 y.1) := ho.cell e2_len hy (j := 0) rfl
      have d1 : wr.cell? ⟨g, k * 2 + 1, none⟩ = some (.int .i64 y.2) := ho.cell e2_len hy (j := 1) rfl
      have g0 := ho.free (k * 2)
      have g1 := ho.free (k * 2 + 1)
      go_wp2
      go_roundw
      case rel => exact ⟨k + 1, by omega, by go_num, by go_num, by rw [← overK_set (marks2_len k0 n) hl (marks2_get k0 hlt)]; exact ho.set2 k (k0 + k * 2, k0 + k * 2 + 1), (only_setCell (only_setCell hg (.inl rfl) _) (.inl rfl) _)⟩
      case measure => simp [intOf]; omega
    · go_wp2
      go_ret
      have : k = n := by omega
      subst this
      exact ⟨rfl, by rw [← overK_all (marks2_len k0 k) hl]; exact ho, hg⟩
theorem markRemarkS_any (A : Option Addr) (n c : Nat) (base : Nat) (k0 : Int) (xs : List (Int × Int)) (w : World) (h : Own w base 39 2 e2 (.slice A n c) xs) (hn : n ≤ 1048577) (hk0 : 0 ≤ k0) (hk1 : k0 ≤ 16777216) :
    Calls Tryd.prog 9 #[.slice A n c, .int .i64 k0] w fun e w' => e = .returned (.int .i64 (k0 + n * 2)) ∧ Own w' base 39 2 e2 (.slice A n c) (marks2 k0 n) ∧ w.grownBy w' (Value.slice A n c).ownBlock := by
  rcases h.form with ⟨rfl, rfl, rfl, rfl⟩ | ⟨g, rfl⟩
  · go_enter Tryd.func9, Tryd.ntmps9
    go_wp2
    refine wp_loop_rounds 1 ?_
    rw [rounds_succ]
    go_wp2
    go_ret
    exact ⟨by simp, h, World.grownBy.refl _ _⟩
  · exact markRemarkS_at g n c base k0 xs w h hn hk0 hk1

theorem heldRemarkS_any (A : Option Addr) (n c : Nat) (k0 : Int) (w : World) (h : Sl w 2 e2 A n (marks2 k0 n)) (hn : n ≤ 1048577) (hk0 : 0 ≤ k0) (hk1 : k0 ≤ 16777216) :
    Calls Tryd.prog 11 #[.slice A n c, .int .i64 k0] w fun e w' => e = .returned (.int .i64 (k0 + n * 2)) ∧ w = w' := by
  go_enter Tryd.func11, Tryd.ntmps11
  go_wp2
  go_loop [1, 5] (fun q i => ∃ k : Nat, k ≤ n ∧ i = .int .i64 k ∧ q = .int .i64 (k0 + k * 2)) (fun _ i => n - (intOf i).toNat)
  case atStart => exact ⟨0, by omega, rfl, by simp⟩
  case round =>
    obtain ⟨k, hk, rfl, rfl⟩ := hrel
    by_cases hlt : k < n
    · obtain ⟨b, off, x, rfl, hx, _, c0, c1⟩ := h.at2 hlt
      rw [marks2_get k0 hlt] at hx
      cases hx
      go_wp2
      go_round
      case rel => exact ⟨k + 1, by omega, by go_num, by go_num⟩
      case measure => simp [intOf]; omega
    · go_wp2
      go_ret
      have : k = n := by omega
      subst this
      exact ⟨rfl, rfl⟩

end Go.Proofs.YtcfbnlkkoifiiaaDoor
