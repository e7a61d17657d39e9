/-
  The laws' helpers on the struct Part.
-/
import Derived.Test.YthplfodfilefjaaDoorBase
import Derived.Laws.StructEq
namespace Go.Proofs.YthplfodfilefjaaDoor
set_option maxRecDepth 100000
open Go.RowKit

theorem szPartS_yes (A : Option Addr) (n c : Nat) (left : Int) (w : World) (h0 : 0 ≤ left) (h1 : left ≤ 1048576) (h : (n : Int) ≤ left) :
    Calls Tryd.prog 14 #[.slice A n c, .int .i64 left] w fun e w' => e = .returned (.int .i64 (left - n)) ∧ w = w' := by
  go_enter Tryd.func14, Tryd.ntmps14
  go_wp2
  go_ret
  exact ⟨rfl, rfl⟩
theorem szPartS_no (A : Option Addr) (n c : Nat) (left : Int) (w : World) (h0 : 0 ≤ left) (h1 : left ≤ 1048576) (h : left < (n : Int)) (hn : n ≤ maxLen) :
    Calls Tryd.prog 14 #[.slice A n c, .int .i64 left] w fun e w' => e = .returned (.int .i64 (-1)) ∧ w = w' := by
  unfold maxLen at hn
  go_enter Tryd.func14, Tryd.ntmps14
  go_wp2
  go_ret
  exact ⟨rfl, rfl⟩

theorem toPart_any (x : (Int × Int × Int)) (w : World) :
    Calls Tryd.prog 33 #[.agg #[.int .i64 x.1, .int .i64 x.2.1, .int .i64 x.2.2]] w fun e w' => e = .returned (.agg #[.int .i64 x.1, .int .i64 x.2.1, .int .i64 x.2.2]) ∧ Below w.heap.size w w' := by
  go_enter Tryd.func33, Tryd.ntmps33
  go_wp2
  exact bodyPost_ret (v := .agg #[.int .i64 x.1, .int .i64 x.2.1, .int .i64 x.2.2]) (by simp [results, Tryd.results33, go_sem]) rfl ⟨rfl, ((((Below.refl _ _).alloc (by simp) _).alloc (by simp) _).alloc (by simp <;> omega) _)⟩

theorem eqPart_any (x y : (Int × Int × Int)) (w : World) :
    Calls Tryd.prog 36 #[.agg #[.int .i64 x.1, .int .i64 x.2.1, .int .i64 x.2.2], .agg #[.int .i64 y.1, .int .i64 y.2.1, .int .i64 y.2.2]] w fun e w' => e = .returned (.bool (decide (x = y))) ∧ Below w.heap.size w w' := by
  have hxy : (x = y) ↔ x.1 = y.1 ∧ x.2.1 = y.2.1 ∧ x.2.2 = y.2.2 := by simp [Prod.ext_iff]
  have H := Lib.hid hxy; clear hxy
  go_enter Tryd.func36, Tryd.ntmps36
  go_wp2
  all_goals go_ret
  all_goals refine ⟨ret_bool ?_, (((Below.refl _ _).alloc (by simp) _).alloc (by simp) _)⟩
  all_goals first
    | (have h := (by assumption : (x.1 != y.1) = true); simp at h; simp [H.out, h])
    | (have h := (by assumption : (x.2.1 != y.2.1) = true); simp at h; simp [H.out, h])
    | (have h := (by assumption : (x.2.2 != y.2.2) = true); simp at h; simp [H.out, h])
    | (have g0 := (by assumption : (x.1 != y.1) = false); have g1 := (by assumption : (x.2.1 != y.2.1) = false); have g2 := (by assumption : (x.2.2 != y.2.2) = false); simp at g0 g1 g2; simp [H.out, g0, g1, g2])

theorem infoPart : (Tryd.prog.info? 64).map (fun i => (i.zero, i.size, i.bytes)) = some (some (.agg #[.int .i64 0, .int .i64 0, .int .i64 0]), 3, 24) := by kernel_rfl

set_option maxHeartbeats 400000 in
theorem toPartS_any (A : Option Addr) (n c : Nat) (xs : List (Int × Int × Int)) (w : World) (h : Sl w 3 e3 A n xs) (hn : n ≤ 1048576) :
    Calls Tryd.prog 16 #[.slice A n c] w fun e w' => e = .returned (.slice (some ⟨w.heap.size, 0, none⟩) n n) ∧ Own w' w.heap.size 64 3 e3 (.slice (some ⟨w.heap.size, 0, none⟩) n n) xs ∧ Below w.heap.size w w' := by
  obtain ⟨i0, hi0, hz0, hz1, hz2⟩ := info_parts infoPart
  go_enter Tryd.func16, Tryd.ntmps16
  go_wp2_with (with_reducible refine wpList_make_full _ rfl (.tmp 6) (.tmp 6) 43 rfl w.heap.size 64 i0 _ 3 Tryd.underlying43 hi0 hz0 hz1 .i64 .i64 n n n rfl rfl rfl rfl (by rw [hz2]; omega) (by unfold maxLen; omega) (Nat.le_refl _) ?_; intro w1 hown1 hg1)
  have ho1 : Own w1 w.heap.size 64 3 e3 (.slice (some ⟨w.heap.size, 0, none⟩) n n) (mixK ((0 : Int), (0 : Int), (0 : Int)) xs n 0) :=
    Own.of_row hown1 (by rw [mixK_zero]; simp) (by rw [mixK_zero]; exact madeK e3_len (by omega) ((0 : Int), (0 : Int), (0 : Int)) n)
  have hb1 : Below w.heap.size w w1 := (Below.refl _ _).grown hg1 (Nat.le_refl _) (by simp)
  go_loopw [4] (fun i wr => ∃ k : Nat, k ≤ n ∧ i = .int .i64 k ∧ Own wr w.heap.size 64 3 e3 (.slice (some ⟨w.heap.size, 0, none⟩) n n) (mixK ((0 : Int), (0 : Int), (0 : Int)) xs n k) ∧ Below w.heap.size w wr) (fun i _ => n - (intOf i).toNat)
  case atStart => exact ⟨0, by omega, rfl, ho1, hb1⟩
  case round =>
    obtain ⟨k, hk, rfl, ho, hb⟩ := hrel
    by_cases hlt : k < n
    · obtain ⟨b, off, x, rfl, hx, _, c0, c1, c2⟩ := (h.below hb).at3 hlt
      go_wp2_with (go_at_call 33; refine (toPart_any x _).mono ?_; rintro e w2 ⟨rfl, hb2⟩; have ho2 := ho.below hb2; have d0 : w2.cell? ⟨w.heap.size, k * 3, none⟩ = some (.int .i64 0) := ho2.cell e3_len (mixK_get _ h.1 hlt) (j := 0) rfl; have d1 : w2.cell? ⟨w.heap.size, k * 3 + 1, none⟩ = some (.int .i64 0) := ho2.cell e3_len (mixK_get _ h.1 hlt) (j := 1) rfl; have d2 : w2.cell? ⟨w.heap.size, k * 3 + 2, none⟩ = some (.int .i64 0) := ho2.cell e3_len (mixK_get _ h.1 hlt) (j := 2) rfl; have g0 := ho2.free (k * 3); have g1 := ho2.free (k * 3 + 1); have g2 := ho2.free (k * 3 + 2))
      go_roundw
      case rel => exact ⟨k + 1, by omega, by go_num, by rw [← mixK_set _ h.1 hx]; exact ho2.set3 k x, (below_mid hb hb2 hb.size) |>.setCell (by simp) _ |>.setCell (by simp) _ |>.setCell (by simp) _⟩
      case measure => simp [intOf]; omega
    · go_wp2
      go_ret
      have : k = n := by omega
      subst this
      refine ⟨rfl, ?_, hb⟩
      rw [mixK_all _ _ _ h.1] at ho
      exact ho

theorem eqPartS_any (A : Option Addr) (n c : Nat) (xs : List (Int × Int × Int)) (B : Option Addr) (m d : Nat) (ys : List (Int × Int × Int)) (w : World) (h : Sl w 3 e3 A n xs) (hn : n ≤ 1048577) (h' : Sl w 3 e3 B m ys) (hm : m ≤ 1048577) :
    Calls Tryd.prog 18 #[.slice A n c, .slice B m d] w fun e w' => e = .returned (.bool (decide (xs = ys))) ∧ Below w.heap.size w w' := by
  by_cases hnm : n = m
  · subst hnm
    go_enter Tryd.func18, Tryd.ntmps18
    go_wp2
    go_loopw [5] (fun i wr => ∃ k : Nat, k ≤ n ∧ i = .int .i64 k ∧ Hid (xs.take k = ys.take k) ∧ Below w.heap.size w wr) (fun i _ => n - (intOf i).toNat)
    case atStart => exact ⟨0, by omega, rfl, by simp [Hid], Below.refl _ _⟩
    case round =>
      obtain ⟨k, hk, rfl, he, hb⟩ := hrel
      by_cases hlt : k < n
      · obtain ⟨b, off, x, rfl, hx, _, c0, c1, c2⟩ := (h.below hb).at3 hlt
        obtain ⟨b', off', y, rfl, hy, _, d0, d1, d2⟩ := (h'.below hb).at3 hlt
        have hbd := hb.drew
        go_wp2_with fail
        go_still_tail 8, (by kernel_rfl)
        change wpList _ _ _ _ _ wr.drew
        generalize wr.drew = w2 at hbd ⊢
        go_wp2_with (go_at_call 36; refine (eqPart_any x y _).mono ?_; rintro e w3 ⟨rfl, hb3⟩)
        · have q1 : (!decide (x = y)) = true := by assumption
          go_ret
          exact ⟨ret_bool (by have := ne_of_get hx hy (by simpa using q1); simp [this]), below_mid hbd hb3 hbd.size⟩
        · have q1 : (!decide (x = y)) = false := by assumption
          go_roundw
          case rel => exact ⟨k + 1, by omega, by go_num, take_eq_step he.out hx hy (by simpa using q1), below_mid hbd hb3 hbd.size⟩
          case measure => simp [intOf]; omega
      · go_wp2
        go_ret
        have : k = n := by omega
        subst this
        exact ⟨ret_bool (by have := eq_of_take he.out h.1 h'.1; simp [this]), hb⟩
  · have hne : xs ≠ ys := fun e => hnm (by rw [← h.1, ← h'.1, e])
    have H := Lib.hid hne; clear hne
    go_enter Tryd.func18, Tryd.ntmps18
    go_wp2
    go_ret
    exact ⟨ret_bool (by simp [H.out]), Below.refl _ _⟩

end Go.Proofs.YthplfodfilefjaaDoor
