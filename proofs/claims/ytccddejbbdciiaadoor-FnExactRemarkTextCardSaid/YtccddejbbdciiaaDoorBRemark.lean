/-
  The laws' helpers on the struct Remark.
-/
import Derived.Test.YtccddejbbdciiaaDoorBase
import Derived.Laws.StructEq
namespace Go.Proofs.YtccddejbbdciiaaDoor
set_option maxRecDepth 100000
open Go.RowKit

theorem toRemark_any (x : (Int × Int)) (w : World) :
    Calls Tryd.prog 7 #[.agg #[.int .i64 x.1, .int .i64 x.2]] w fun e w' => e = .returned (.agg #[.int .i64 x.1, .int .i64 x.2]) ∧ Below w.heap.size w w' := by
  go_enter Tryd.func7, Tryd.ntmps7
  go_wp2
  exact bodyPost_ret (v := .agg #[.int .i64 x.1, .int .i64 x.2]) (by simp [results, Tryd.results7, go_sem]) rfl ⟨rfl, ((((Below.refl _ _).alloc (by simp) _).alloc (by simp) _).alloc (by simp <;> omega) _)⟩

theorem eqRemark_any (x y : (Int × Int)) (w : World) :
    Calls Tryd.prog 39 #[.agg #[.int .i64 x.1, .int .i64 x.2], .agg #[.int .i64 y.1, .int .i64 y.2]] w fun e w' => e = .returned (.bool (decide (x = y))) ∧ Below w.heap.size w w' := by
  have hxy : (x = y) ↔ x.1 = y.1 ∧ x.2 = y.2 := by simp [Prod.ext_iff]
  have H := Lib.hid hxy; clear hxy
  go_enter Tryd.func39, Tryd.ntmps39
  go_wp2
  all_goals go_ret
  all_goals refine ⟨ret_bool ?_, (((Below.refl _ _).alloc (by simp) _).alloc (by simp) _)⟩
  all_goals first
    | (have h := (by assumption : (x.1 != y.1) = true); simp at h; simp [H.out, h])
    | (have h := (by assumption : (x.2 != y.2) = true); simp at h; simp [H.out, h])
    | (have g0 := (by assumption : (x.1 != y.1) = false); have g1 := (by assumption : (x.2 != y.2) = false); simp at g0 g1; simp [H.out, g0, g1])

theorem infoRemark : (Tryd.prog.info? 25).map (fun i => (i.zero, i.size, i.bytes)) = some (some (.agg #[.int .i64 0, .int .i64 0]), 2, 16) := by kernel_rfl

theorem eqRemarkS_any (A : Option Addr) (n c : Nat) (xs : List (Int × Int)) (B : Option Addr) (m d : Nat) (ys : List (Int × Int)) (w : World) (h : Sl w 2 e2 A n xs) (hn : n ≤ 1048577) (h' : Sl w 2 e2 B m ys) (hm : m ≤ 1048577) :
    Calls Tryd.prog 16 #[.slice A n c, .slice B m d] w fun e w' => e = .returned (.bool (decide (xs = ys))) ∧ Below w.heap.size w w' := by
  by_cases hnm : n = m
  · subst hnm
    go_enter Tryd.func16, Tryd.ntmps16
    go_wp2
    go_loopw [5] (fun i wr => ∃ k : Nat, k ≤ n ∧ i = .int .i64 k ∧ Hid (xs.take k = ys.take k) ∧ Below w.heap.size w wr) (fun i _ => n - (intOf i).toNat)
    case atStart => exact ⟨0, by omega, rfl, by simp [Hid], Below.refl _ _⟩
    case round =>
      obtain ⟨k, hk, rfl, he, hb⟩ := hrel
      by_cases hlt : k < n
      · obtain ⟨b, off, x, rfl, hx, _, c0, c1⟩ := (h.below hb).at2 hlt
        obtain ⟨b', off', y, rfl, hy, _, d0, d1⟩ := (h'.below hb).at2 hlt
        have hbd := hb.drew
        go_wp2_with fail
        go_still_tail 8, (by kernel_rfl)
        change wpList _ _ _ _ _ wr.drew
        generalize wr.drew = w2 at hbd ⊢
        go_wp2_with (go_at_call 39; refine (eqRemark_any x y _).mono ?_; rintro e w3 ⟨rfl, hb3⟩)
        · have q1 : (!decide (x = y)) = true := by assumption
          go_ret
          exact ⟨ret_bool (by have := ne_of_get hx hy (by simpa using q1); simp [this]), below_mid hbd hb3 hbd.size⟩
        · have q1 : (!decide (x = y)) = false := by assumption
          go_roundw
          case rel => exact ⟨k + 1, by omega, by go_num, take_eq_step he.out hx hy (by simpa using q1), below_mid hbd hb3 hbd.size⟩
          case measure => simp [intOf]; omega
      · go_wp2
        go_ret
        have : k = n := by omega
        subst this
        exact ⟨ret_bool (by have := eq_of_take he.out h.1 h'.1; simp [this]), hb⟩
  · have hne : xs ≠ ys := fun e => hnm (by rw [← h.1, ← h'.1, e])
    have H := Lib.hid hne; clear hne
    go_enter Tryd.func16, Tryd.ntmps16
    go_wp2
    go_ret
    exact ⟨ret_bool (by simp [H.out]), Below.refl _ _⟩

end Go.Proofs.YtccddejbbdciiaaDoor
