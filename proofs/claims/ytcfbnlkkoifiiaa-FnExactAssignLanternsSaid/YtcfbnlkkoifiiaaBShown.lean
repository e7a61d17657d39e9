/-
  The laws' helpers on the struct Shown.
-/
import Derived.Test.YtcfbnlkkoifiiaaBase
import Derived.Laws.StructEq
namespace Go.Proofs.Ytcfbnlkkoifiiaa
open Go.RowKit

theorem szShownS_yes (A : Option Addr) (n c : Nat) (left : Int) (w : World) (h0 : 0 ≤ left) (h1 : left ≤ 1048576) (h : (n : Int) ≤ left) :
    Calls Try.prog 5 #[.slice A n c, .int .i64 left] w fun e w' => e = .returned (.int .i64 (left - n)) ∧ w = w' := by
  go_enter Try.func5, Try.ntmps5
  go_wp2
  go_ret
  exact ⟨rfl, rfl⟩
theorem szShownS_no (A : Option Addr) (n c : Nat) (left : Int) (w : World) (h0 : 0 ≤ left) (h1 : left ≤ 1048576) (h : left < (n : Int)) (hn : n ≤ maxLen) :
    Calls Try.prog 5 #[.slice A n c, .int .i64 left] w fun e w' => e = .returned (.int .i64 (-1)) ∧ w = w' := by
  unfold maxLen at hn
  go_enter Try.func5, Try.ntmps5
  go_wp2
  go_ret
  exact ⟨rfl, rfl⟩

theorem toShown_any (x : (Int × Int × Int)) (w : World) :
    Calls Try.prog 18 #[.agg #[.int .i64 x.1, .int .i64 x.2.1, .int .i64 x.2.2]] w fun e w' => e = .returned (.agg #[.int .i64 x.1, .int .i64 x.2.1, .int .i64 x.2.2]) ∧ Below w.heap.size w w' := by
  go_enter Try.func18, Try.ntmps18
  go_wp2
  exact bodyPost_ret (v := .agg #[.int .i64 x.1, .int .i64 x.2.1, .int .i64 x.2.2]) (by simp [results, Try.results18, go_sem]) rfl ⟨rfl, ((((Below.refl _ _).alloc (by simp) _).alloc (by simp) _).alloc (by simp <;> omega) _)⟩

theorem eqShown_any (x y : (Int × Int × Int)) (w : World) :
    Calls Try.prog 24 #[.agg #[.int .i64 x.1, .int .i64 x.2.1, .int .i64 x.2.2], .agg #[.int .i64 y.1, .int .i64 y.2.1, .int .i64 y.2.2]] w fun e w' => e = .returned (.bool (decide (x = y))) ∧ Below w.heap.size w w' := by
  have hxy : (x = y) ↔ x.1 = y.1 ∧ x.2.1 = y.2.1 ∧ x.2.2 = y.2.2 := by simp [Prod.ext_iff]
  have H := Lib.hid hxy; clear hxy
  go_enter Try.func24, Try.ntmps24
  go_wp2
  all_goals go_ret
  all_goals refine ⟨ret_bool ?_, (((Below.refl _ _).alloc (by simp) _).alloc (by simp) _)⟩
  all_goals first
    | (have h := (by assumption : (x.1 != y.1) = true); simp at h; simp [H.out, h])
    | (have h := (by assumption : (x.2.1 != y.2.1) = true); simp at h; simp [H.out, h])
    | (have h := (by assumption : (x.2.2 != y.2.2) = true); simp at h; simp [H.out, h])
    | (have g0 := (by assumption : (x.1 != y.1) = false); have g1 := (by assumption : (x.2.1 != y.2.1) = false); have g2 := (by assumption : (x.2.2 != y.2.2) = false); simp at g0 g1 g2; simp [H.out, g0, g1, g2])

theorem infoShown : (Try.prog.info? 40).map (fun i => (i.zero, i.size, i.bytes)) = some (some (.agg #[.int .i64 0, .int .i64 0, .int .i64 0]), 3, 24) := by kernel_rfl

set_option maxHeartbeats 400000 in
theorem toShownS_any (A : Option Addr) (n c : Nat) (xs : List (Int × Int × Int)) (w : World) (h : Sl w 3 e3 A n xs) (hn : n ≤ 1048576) :
    Calls Try.prog 7 #[.slice A n c] w fun e w' => e = .returned (.slice (some ⟨w.heap.size, 0, none⟩) n n) ∧ Own w' w.heap.size 40 3 e3 (.slice (some ⟨w.heap.size, 0, none⟩) n n) xs ∧ Below w.heap.size w w' := by
  obtain ⟨i0, hi0, hz0, hz1, hz2⟩ := info_parts infoShown
  go_enter Try.func7, Try.ntmps7
  go_wp2_with (with_reducible refine wpList_make_full _ rfl (.tmp 6) (.tmp 6) 27 rfl w.heap.size 40 i0 _ 3 Try.underlying27 hi0 hz0 hz1 .i64 .i64 n n n rfl rfl rfl rfl (by rw [hz2]; omega) (by unfold maxLen; omega) (Nat.le_refl _) ?_; intro w1 hown1 hg1)
  have ho1 : Own w1 w.heap.size 40 3 e3 (.slice (some ⟨w.heap.size, 0, none⟩) n n) (mixK ((0 : Int), (0 : Int), (0 : Int)) xs n 0) :=
    Own.of_row hown1 (by rw [mixK_zero]; simp) (by rw [mixK_zero]; exact madeK e3_len (by omega) ((0 : Int), (0 : Int), (0 : Int)) n)
  have hb1 : Below w.heap.size w w1 := (Below.refl _ _).grown hg1 (Nat.le_refl _) (by simp)
  go_loopw [4] (fun i wr => ∃ k : Nat, k ≤ n ∧ i = .int .i64 k ∧ Own wr w.heap.size 40 3 e3 (.slice (some ⟨w.heap.size, 0, none⟩) n n) (mixK ((0 : Int), (0 : Int), (0 : Int)) xs n k) ∧ Below w.heap.size w wr) (fun i _ => n - (intOf i).toNat)
  case atStart => exact ⟨0, by omega, rfl, ho1, hb1⟩
  case round =>
    obtain ⟨k, hk, rfl, ho, hb⟩ := hrel
    by_cases hlt : k < n
    · obtain ⟨b, off, x, rfl, hx, _, c0, c1, c2⟩ := (h.below hb).at3 hlt
      go_wp2_with (go_at_call 18; refine (toShown_any x _).mono ?_; rintro e w2 ⟨rfl, hb2⟩; have ho2 := ho.below hb2; have d0 : w2.cell? ⟨w.heap.size, k * 3, none⟩ = some (.int .i64 0) := ho2.cell e3_len (mixK_get _ h.1 hlt) (j := 0) rfl; have d1 : w2.cell? ⟨w.heap.size, k * 3 + 1, none⟩ = some (.int .i64 0) := ho2.cell e3_len (mixK_get _ h.1 hlt) (j := 1) rfl; have d2 : w2.cell? ⟨w.heap.size, k * 3 + 2, none⟩ = some (.int .i64 0) := ho2.cell e3_len (mixK_get _ h.1 hlt) (j := 2) rfl; have g0 := ho2.free (k * 3); have g1 := ho2.free (k * 3 + 1); have g2 := ho2.free (k * 3 + 2))
      go_roundw
      case rel => exact ⟨k + 1, by omega, by go_num, by rw [← mixK_set _ h.1 hx]; exact ho2.set3 k x, (below_mid hb hb2 hb.size) |>.setCell (by simp) _ |>.setCell (by simp) _ |>.setCell (by simp) _⟩
      case measure => simp [intOf]; omega
    · go_wp2
      go_ret
      have : k = n := by omega
      subst this
      refine ⟨rfl, ?_, hb⟩
      rw [mixK_all _ _ _ h.1] at ho
      exact ho

theorem eqShownS_any (A : Option Addr) (n c : Nat) (xs : List (Int × Int × Int)) (B : Option Addr) (m d : Nat) (ys : List (Int × Int × Int)) (w : World) (h : Sl w 3 e3 A n xs) (hn : n ≤ 1048577) (h' : Sl w 3 e3 B m ys) (hm : m ≤ 1048577) :
    Calls Try.prog 10 #[.slice A n c, .slice B m d] w fun e w' => e = .returned (.bool (decide (xs = ys))) ∧ Below w.heap.size w w' := by
  by_cases hnm : n = m
  · subst hnm
    go_enter Try.func10, Try.ntmps10
    go_wp2
    go_loopw [5] (fun i wr => ∃ k : Nat, k ≤ n ∧ i = .int .i64 k ∧ Hid (xs.take k = ys.take k) ∧ Below w.heap.size w wr) (fun i _ => n - (intOf i).toNat)
    case atStart => exact ⟨0, by omega, rfl, by simp [Hid], Below.refl _ _⟩
    case round =>
      obtain ⟨k, hk, rfl, he, hb⟩ := hrel
      by_cases hlt : k < n
      · obtain ⟨b, off, x, rfl, hx, _, c0, c1, c2⟩ := (h.below hb).at3 hlt
        obtain ⟨b', off', y, rfl, hy, _, d0, d1, d2⟩ := (h'.below hb).at3 hlt
        have hbd := hb.drew
        go_wp2_with fail
        go_still_tail 8, (by kernel_rfl)
        change wpList _ _ _ _ _ wr.drew
        generalize wr.drew = w2 at hbd ⊢
        go_wp2_with (go_at_call 24; refine (eqShown_any x y _).mono ?_; rintro e w3 ⟨rfl, hb3⟩)
        · have q1 : (!decide (x = y)) = true := by assumption
          go_ret
          exact ⟨ret_bool (by have := ne_of_get hx hy (by simpa using q1); simp [this]), below_mid hbd hb3 hbd.size⟩
        · have q1 : (!decide (x = y)) = false := by assumption
          go_roundw
          case rel => exact ⟨k + 1, by omega, by go_num, take_eq_step he.out hx hy (by simpa using q1), below_mid hbd hb3 hbd.size⟩
          case measure => simp [intOf]; omega
      · go_wp2
        go_ret
        have : k = n := by omega
        subst this
        exact ⟨ret_bool (by have := eq_of_take he.out h.1 h'.1; simp [this]), hb⟩
  · have hne : xs ≠ ys := fun e => hnm (by rw [← h.1, ← h'.1, e])
    have H := Lib.hid hne; clear hne
    go_enter Try.func10, Try.ntmps10
    go_wp2
    go_ret
    exact ⟨ret_bool (by simp [H.out]), Below.refl _ _⟩

theorem neqShown (x y : (Int × Int × Int)) (w : World) : (binOp .neq 40 (.agg #[.int .i64 x.1, .int .i64 x.2.1, .int .i64 x.2.2]) (.agg #[.int .i64 y.1, .int .i64 y.2.1, .int .i64 y.2.2])).run Try.prog w = .ok (.bool (!decide (x = y))) w := by
  have hS : Try.prog.underlying 40 = some (.struct (Try.prog.fieldsOf 40)) := by kernel_rfl
  have hp : Try.prog.stoodInHeld 40 = false := by kernel_rfl
  have u3 := Try.underlying2
  rw [run_neq_struct, show (10000 : Nat) = 9999 + 1 from rfl, run_equalIn_agg w 9999 40 _ _ hS hp]
  simp only [Program.fieldsOf, Try.underlying40]
  go_simp
  by_cases h0 : x.1 = y.1 <;> by_cases h1 : x.2.1 = y.2.1 <;> by_cases h2 : x.2.2 = y.2.2 <;> simp [h0, h1, h2, Prod.ext_iff]

set_option maxHeartbeats 1000000 in
theorem markShownS_at (g n c : Nat) (base : Nat) (k0 : Int) (xs : List (Int × Int × Int)) (w : World) (h : Own w base 40 3 e3 (.slice (some ⟨g, 0, none⟩) n c) xs) (hn : n ≤ 1048577) (hk0 : 0 ≤ k0) (hk1 : k0 ≤ 16777216) :
    Calls Try.prog 11 #[.slice (some ⟨g, 0, none⟩) n c, .int .i64 k0] w fun e w' => e = .returned (.int .i64 (k0 + n * 3)) ∧ Own w' base 40 3 e3 (.slice (some ⟨g, 0, none⟩) n c) (marks3 k0 n) ∧ w.grownBy w' (some g) := by
  have hl : xs.length = n := (h.sl e3_len).1
  go_enter Try.func11, Try.ntmps11
  go_wp2
  go_loopw [1, 5] (fun q i wr => ∃ k : Nat, k ≤ n ∧ i = .int .i64 k ∧ q = .int .i64 (k0 + k * 3) ∧ Own wr base 40 3 e3 (.slice (some ⟨g, 0, none⟩) n c) (overK (marks3 k0 n) xs k) ∧ w.grownBy wr (some g)) (fun _ i _ => n - (intOf i).toNat)
  case atStart => exact ⟨0, by omega, rfl, by simp, by simpa [overK] using h, World.grownBy.refl _ _⟩
  case round =>
    obtain ⟨k, hk, rfl, rfl, ho, hg⟩ := hrel
    by_cases hlt : k < n
    · obtain ⟨y, _, hy⟩ := overK_get (marks3_len k0 n) hl hlt
      have d0 : wr.cell? ⟨g, k * 3, none⟩ = some (.int .i64 y.1) := ho.cell e3_len hy (j := 0) rfl
      have d1 : wr.cell? ⟨g, k * 3 + 1, none⟩ = some (.int .i64 y.2.1) := ho.cell e3_len hy (j := 1) rfl
      have d2 : wr.cell? ⟨g, k * 3 + 2, none⟩ = some (.int .i64 y.2.2) := ho.cell e3_len hy (j := 2) rfl
      have g0 := ho.free (k * 3)
      have g1 := ho.free (k * 3 + 1)
      have g2 := ho.free (k * 3 + 2)
      go_wp2
      go_roundw
      case rel => exact ⟨k + 1, by omega, by go_num, by go_num, by rw [← overK_set (marks3_len k0 n) hl (marks3_get k0 hlt)]; exact ho.set3 k (k0 + k * 3, k0 + k * 3 + 1, k0 + k * 3 + 1 + 1), (only_setCell (only_setCell (only_setCell hg (.inl rfl) _) (.inl rfl) _) (.inl rfl) _)⟩
      case measure => simp [intOf]; omega
    · go_wp2
      go_ret
      have : k = n := by omega
      subst this
      exact ⟨rfl, by rw [← overK_all (marks3_len k0 k) hl]; exact ho, hg⟩
theorem markShownS_any (A : Option Addr) (n c : Nat) (base : Nat) (k0 : Int) (xs : List (Int × Int × Int)) (w : World) (h : Own w base 40 3 e3 (.slice A n c) xs) (hn : n ≤ 1048577) (hk0 : 0 ≤ k0) (hk1 : k0 ≤ 16777216) :
    Calls Try.prog 11 #[.slice A n c, .int .i64 k0] w fun e w' => e = .returned (.int .i64 (k0 + n * 3)) ∧ Own w' base 40 3 e3 (.slice A n c) (marks3 k0 n) ∧ w.grownBy w' (Value.slice A n c).ownBlock := by
  rcases h.form with ⟨rfl, rfl, rfl, rfl⟩ | ⟨g, rfl⟩
  · go_enter Try.func11, Try.ntmps11
    go_wp2
    refine wp_loop_rounds 1 ?_
    rw [rounds_succ]
    go_wp2
    go_ret
    exact ⟨by simp, h, World.grownBy.refl _ _⟩
  · exact markShownS_at g n c base k0 xs w h hn hk0 hk1

end Go.Proofs.Ytcfbnlkkoifiiaa
