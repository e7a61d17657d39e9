/-
  The laws' helpers on the struct Act.
-/
import Derived.Test.YthplfodfilefjaaDoorBase
import Derived.Test.YthplfodfilefjaaDoorW2
import Derived.Laws.StructEq
namespace Go.Proofs.YthplfodfilefjaaDoor
set_option maxRecDepth 100000
open Go.RowKit

def eAct (x : (Int × ByteArray × ByteArray × Int)) : List Value := [.int .i64 x.1, .string x.2.1, .string x.2.2.1, .int .i64 x.2.2.2]
theorem eAct_len (x : (Int × ByteArray × ByteArray × Int)) : (eAct x).length = 4 := rfl
theorem eAct_one : ∀ x, ∀ u ∈ eAct x, u.oneCell' = true := by intro x u hu; simp [eAct] at hu; rcases hu with rfl | rfl | rfl | rfl <;> rfl
theorem Sl.atAct {w : World} {n i : Nat} {A : Option Addr} {xs : List (Int × ByteArray × ByteArray × Int)} (h : Sl w 4 eAct A n xs) (hi : i < n) : ∃ b off x, A = some ⟨b, off, none⟩ ∧ xs[i]? = some x ∧ x ∈ xs ∧
    w.cell? ⟨b, off + i * 4, none⟩ = some (.int .i64 x.1) ∧ w.cell? ⟨b, off + i * 4 + 1, none⟩ = some (.string x.2.1) ∧ w.cell? ⟨b, off + i * 4 + 2, none⟩ = some (.string x.2.2.1) ∧ w.cell? ⟨b, off + i * 4 + 3, none⟩ = some (.int .i64 x.2.2.2) := by
  obtain ⟨b, off, x, hA, hx, hm, hc⟩ := h.at_ hi
  exact ⟨b, off, x, hA, hx, hm, hc 0 _ rfl, hc 1 _ rfl, hc 2 _ rfl, hc 3 _ rfl⟩
theorem Sl.getAct {w : World} {n i b off : Nat} {xs : List (Int × ByteArray × ByteArray × Int)} {x : (Int × ByteArray × ByteArray × Int)} (h : Sl w 4 eAct (some ⟨b, off, none⟩) n xs) (hx : xs[i]? = some x) : w.cell? ⟨b, off + i * 4, none⟩ = some (.int .i64 x.1) ∧ w.cell? ⟨b, off + i * 4 + 1, none⟩ = some (.string x.2.1) ∧ w.cell? ⟨b, off + i * 4 + 2, none⟩ = some (.string x.2.2.1) ∧ w.cell? ⟨b, off + i * 4 + 3, none⟩ = some (.int .i64 x.2.2.2) := by
  obtain ⟨b', off', y, hA, hy, _, hc⟩ := h.atAct (i := i) (by rw [← h.1]; exact (List.getElem?_eq_some_iff.1 hx).1)
  cases hA; rw [hx] at hy; cases hy; exact hc
theorem rowAct_set (ys : List (Int × ByteArray × ByteArray × Int)) (i : Nat) (x : (Int × ByteArray × ByteArray × Int)) : (((((ys.flatMap eAct).set (i * 4) (.int .i64 x.1)).set (i * 4 + 1) (.string x.2.1)).set (i * 4 + 2) (.string x.2.2.1)).set (i * 4 + 3) (.int .i64 x.2.2.2)) = (ys.set i x).flatMap eAct := by
  induction ys generalizing i with
  | nil => simp
  | cons y ys ih =>
    cases i with
    | zero => simp [List.flatMap_cons, eAct]
    | succ i =>
      rw [show (i + 1) * 4 = (i * 4) + 1 + 1 + 1 + 1 from by omega, show i * 4 + 1 + 1 + 1 + 1 + 1 = (i * 4 + 1) + 1 + 1 + 1 + 1 from by omega, show i * 4 + 1 + 1 + 1 + 1 + 2 = (i * 4 + 2) + 1 + 1 + 1 + 1 from by omega, show i * 4 + 1 + 1 + 1 + 1 + 3 = (i * 4 + 3) + 1 + 1 + 1 + 1 from by omega]
      simp only [List.flatMap_cons, eAct, List.set_cons_succ, List.cons_append, List.nil_append]
      have := ih i
      try simp only [eAct] at this
      rw [this]
theorem Own.setAct {w : World} {base : Nat} {e : TypeId} {g n cap : Nat} {ys : List (Int × ByteArray × ByteArray × Int)} (h : Own w base e 4 eAct (.slice (some ⟨g, 0, none⟩) n cap) ys) (i : Nat) (x : (Int × ByteArray × ByteArray × Int)) :
    Own ((((w.setCell ⟨g, i * 4, none⟩ (.int .i64 x.1)).setCell ⟨g, i * 4 + 1, none⟩ (.string x.2.1)).setCell ⟨g, i * 4 + 2, none⟩ (.string x.2.2.1)).setCell ⟨g, i * 4 + 3, none⟩ (.int .i64 x.2.2.2)) base e 4 eAct (.slice (some ⟨g, 0, none⟩) n cap) (ys.set i x) := by
  obtain ⟨A, c, hv, _⟩ := h.val
  injection hv with _ hn _
  subst hn
  have h0 := (World.ownsRow.stored h (i * 4) (.int .i64 x.1)).1
  have h1 := (World.ownsRow.stored h0 (i * 4 + 1) (.string x.2.1)).1
  have h2 := (World.ownsRow.stored h1 (i * 4 + 2) (.string x.2.2.1)).1
  have h3 := (World.ownsRow.stored h2 (i * 4 + 3) (.int .i64 x.2.2.2)).1
  exact Own.of_row h3 (by simp) (rowAct_set ys i x)

theorem toAct_any (x : (Int × ByteArray × ByteArray × Int)) (w : World) :
    Calls Tryd.prog 41 #[.agg #[.int .i64 x.1, .string x.2.1, .string x.2.2.1, .int .i64 x.2.2.2]] w fun e w' => e = .returned (.agg #[.int .i64 x.1, .string x.2.1, .string x.2.2.1, .int .i64 x.2.2.2]) ∧ Below w.heap.size w w' := by
  go_enter Tryd.func41, Tryd.ntmps41
  go_wp2
  exact bodyPost_ret (v := .agg #[.int .i64 x.1, .string x.2.1, .string x.2.2.1, .int .i64 x.2.2.2]) (by simp [results, Tryd.results41, go_sem]) rfl ⟨rfl, ((((Below.refl _ _).alloc (by simp) _).alloc (by simp) _).alloc (by simp <;> omega) _)⟩

theorem eqAct_any (x y : (Int × ByteArray × ByteArray × Int)) (w : World) :
    Calls Tryd.prog 45 #[.agg #[.int .i64 x.1, .string x.2.1, .string x.2.2.1, .int .i64 x.2.2.2], .agg #[.int .i64 y.1, .string y.2.1, .string y.2.2.1, .int .i64 y.2.2.2]] w fun e w' => e = .returned (.bool (decide (x = y))) ∧ Below w.heap.size w w' := by
  have hxy : (x = y) ↔ x.1 = y.1 ∧ x.2.1 = y.2.1 ∧ x.2.2.1 = y.2.2.1 ∧ x.2.2.2 = y.2.2.2 := by simp [Prod.ext_iff]
  have H := Lib.hid hxy; clear hxy
  go_enter Tryd.func45, Tryd.ntmps45
  go_wp2
  all_goals go_ret
  all_goals refine ⟨ret_bool ?_, (((Below.refl _ _).alloc (by simp) _).alloc (by simp) _)⟩
  all_goals first
    | (have h := (by assumption : (x.1 != y.1) = true); simp at h; simp [H.out, h])
    | (have h := (by assumption : (!x.2.1.toList == y.2.1.toList) = true); rw [str_eq] at h; simp at h; simp [H.out, h])
    | (have h := (by assumption : (!x.2.2.1.toList == y.2.2.1.toList) = true); rw [str_eq] at h; simp at h; simp [H.out, h])
    | (have h := (by assumption : (x.2.2.2 != y.2.2.2) = true); simp at h; simp [H.out, h])
    | (have g0 := (by assumption : (x.1 != y.1) = false); have g1 := (by assumption : (!x.2.1.toList == y.2.1.toList) = false); rw [str_eq] at g1; have g2 := (by assumption : (!x.2.2.1.toList == y.2.2.1.toList) = false); rw [str_eq] at g2; have g3 := (by assumption : (x.2.2.2 != y.2.2.2) = false); simp at g0 g1 g2 g3; simp [H.out, g0, g1, g2, g3])

theorem infoAct : (Tryd.prog.info? 56).map (fun i => (i.zero, i.size, i.bytes)) = some (some (.agg #[.int .i64 0, .string .empty, .string .empty, .int .i64 0]), 4, 48) := by kernel_rfl

set_option maxHeartbeats 400000 in
set_option maxRecDepth 100000 in
theorem toActS_any (A : Option Addr) (n c : Nat) (xs : List (Int × ByteArray × ByteArray × Int)) (w : World) (h : Sl w 4 eAct A n xs) (hn : n ≤ 1048576) :
    Calls Tryd.prog 24 #[.slice A n c] w fun e w' => e = .returned (.slice (some ⟨w.heap.size, 0, none⟩) n n) ∧ Own w' w.heap.size 56 4 eAct (.slice (some ⟨w.heap.size, 0, none⟩) n n) xs ∧ Below w.heap.size w w' := by
  obtain ⟨i0, hi0, hz0, hz1, hz2⟩ := info_parts infoAct
  go_enter Tryd.func24, Tryd.ntmps24
  go_wp2_with (with_reducible refine wpList_make_full _ rfl (.tmp 6) (.tmp 6) 28 rfl w.heap.size 56 i0 _ 4 Tryd.underlying28 hi0 hz0 hz1 .i64 .i64 n n n rfl rfl rfl rfl (by rw [hz2]; omega) (by unfold maxLen; omega) (Nat.le_refl _) ?_; intro w1 hown1 hg1)
  have ho1 : Own w1 w.heap.size 56 4 eAct (.slice (some ⟨w.heap.size, 0, none⟩) n n) (mixK ((0 : Int), ByteArray.empty, ByteArray.empty, (0 : Int)) xs n 0) :=
    Own.of_row hown1 (by rw [mixK_zero]; simp) (by rw [mixK_zero]; exact madeK eAct_len (by omega) ((0 : Int), ByteArray.empty, ByteArray.empty, (0 : Int)) n)
  have hb1 : Below w.heap.size w w1 := (Below.refl _ _).grown hg1 (Nat.le_refl _) (by simp)
  go_loopw [4] (fun i wr => ∃ k : Nat, k ≤ n ∧ i = .int .i64 k ∧ Own wr w.heap.size 56 4 eAct (.slice (some ⟨w.heap.size, 0, none⟩) n n) (mixK ((0 : Int), ByteArray.empty, ByteArray.empty, (0 : Int)) xs n k) ∧ Below w.heap.size w wr) (fun i _ => n - (intOf i).toNat)
  case atStart => exact ⟨0, by omega, rfl, ho1, hb1⟩
  case round =>
    obtain ⟨k, hk, rfl, ho, hb⟩ := hrel
    by_cases hlt : k < n
    · obtain ⟨b, off, x, rfl, hx, _, c0, c1, c2, c3⟩ := (h.below hb).atAct hlt
      go_wp2_with (go_at_call 41; refine (toAct_any x _).mono ?_; rintro e w2 ⟨rfl, hb2⟩; have ho2 := ho.below hb2; have d0 : w2.cell? ⟨w.heap.size, k * 4, none⟩ = some (.int .i64 0) := ho2.cell eAct_len (mixK_get _ h.1 hlt) (j := 0) rfl; have d1 : w2.cell? ⟨w.heap.size, k * 4 + 1, none⟩ = some (.string .empty) := ho2.cell eAct_len (mixK_get _ h.1 hlt) (j := 1) rfl; have d2 : w2.cell? ⟨w.heap.size, k * 4 + 2, none⟩ = some (.string .empty) := ho2.cell eAct_len (mixK_get _ h.1 hlt) (j := 2) rfl; have d3 : w2.cell? ⟨w.heap.size, k * 4 + 3, none⟩ = some (.int .i64 0) := ho2.cell eAct_len (mixK_get _ h.1 hlt) (j := 3) rfl; have g0 := ho2.free (k * 4); have g1 := ho2.free (k * 4 + 1); have g2 := ho2.free (k * 4 + 2); have g3 := ho2.free (k * 4 + 3))
      go_roundw
      case rel => exact ⟨k + 1, by omega, by go_num, by rw [← mixK_set _ h.1 hx]; exact ho2.setAct k x, (below_mid hb hb2 hb.size) |>.setCell (by simp) _ |>.setCell (by simp) _ |>.setCell (by simp) _ |>.setCell (by simp) _⟩
      case measure => simp [intOf]; omega
    · go_wp2
      go_ret
      have : k = n := by omega
      subst this
      refine ⟨rfl, ?_, hb⟩
      rw [mixK_all _ _ _ h.1] at ho
      exact ho

set_option maxRecDepth 100000 in
theorem eqActS_any (A : Option Addr) (n c : Nat) (xs : List (Int × ByteArray × ByteArray × Int)) (B : Option Addr) (m d : Nat) (ys : List (Int × ByteArray × ByteArray × Int)) (w : World) (h : Sl w 4 eAct A n xs) (hn : n ≤ 1048577) (h' : Sl w 4 eAct B m ys) (hm : m ≤ 1048577) :
    Calls Tryd.prog 28 #[.slice A n c, .slice B m d] w fun e w' => e = .returned (.bool (decide (xs = ys))) ∧ Below w.heap.size w w' := by
  by_cases hnm : n = m
  · subst hnm
    go_enter Tryd.func28, Tryd.ntmps28
    go_wp2
    go_loopw [5] (fun i wr => ∃ k : Nat, k ≤ n ∧ i = .int .i64 k ∧ Hid (xs.take k = ys.take k) ∧ Below w.heap.size w wr) (fun i _ => n - (intOf i).toNat)
    case atStart => exact ⟨0, by omega, rfl, by simp [Hid], Below.refl _ _⟩
    case round =>
      obtain ⟨k, hk, rfl, he, hb⟩ := hrel
      by_cases hlt : k < n
      · obtain ⟨b, off, x, rfl, hx, _, c0, c1, c2, c3⟩ := (h.below hb).atAct hlt
        obtain ⟨b', off', y, rfl, hy, _, d0, d1, d2, d3⟩ := (h'.below hb).atAct hlt
        have hbd := hb.drew
        go_wp2_with fail
        go_still_tail 8, (by kernel_rfl)
        change wpList _ _ _ _ _ wr.drew
        generalize wr.drew = w2 at hbd ⊢
        go_wp2_with (go_at_call 45; refine (eqAct_any x y _).mono ?_; rintro e w3 ⟨rfl, hb3⟩)
        · have q1 : (!decide (x = y)) = true := by assumption
          go_ret
          exact ⟨ret_bool (by have := ne_of_get hx hy (by simpa using q1); simp [this]), below_mid hbd hb3 hbd.size⟩
        · have q1 : (!decide (x = y)) = false := by assumption
          go_roundw
          case rel => exact ⟨k + 1, by omega, by go_num, take_eq_step he.out hx hy (by simpa using q1), below_mid hbd hb3 hbd.size⟩
          case measure => simp [intOf]; omega
      · go_wp2
        go_ret
        have : k = n := by omega
        subst this
        exact ⟨ret_bool (by have := eq_of_take he.out h.1 h'.1; simp [this]), hb⟩
  · have hne : xs ≠ ys := fun e => hnm (by rw [← h.1, ← h'.1, e])
    have H := Lib.hid hne; clear hne
    go_enter Tryd.func28, Tryd.ntmps28
    go_wp2
    go_ret
    exact ⟨ret_bool (by simp [H.out]), Below.refl _ _⟩

end Go.Proofs.YthplfodfilefjaaDoor
