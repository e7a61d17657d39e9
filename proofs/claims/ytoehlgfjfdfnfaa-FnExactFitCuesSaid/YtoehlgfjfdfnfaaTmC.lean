/-
  Contracts of the functions on pieces: when all beats begin (the program).
-/
import Derived.Test.YtoehlgfjfdfnfaaTmB
import Derived.Deep.AppendLies
namespace Go.Proofs.Ytoehlgfjfdfnfaa
open Go.RowKit

theorem unI_bd {U : Int} {xs : List (Int × Int × Int)} {b : Int} (ok : ∀ x ∈ xs, 1 ≤ x.1 ∧ x.1 ≤ 200 ∧ 1 ≤ x.2.1 ∧ x.2.1 ≤ 12 ∧ 20 ≤ x.2.2 ∧ x.2.2 ≤ 300) (hU : 1 ≤ U ∧ U ≤ 100000000) (hb : 0 ≤ b) : 0 ≤ unI U xs b ∧ unI U xs b ≤ b * 300000000 := by
  induction xs generalizing b with
  | nil => simp [unI]; omega
  | cons x xs ih =>
    have hx := ok x (by simp)
    have q1 := bF_bd hx
    have q2 := stU_bd hU (show 20 ≤ x.2.2 ∧ x.2.2 ≤ 300 by omega)
    rw [unI]
    split
    · have hmn : 0 ≤ min b (x.1 * x.2.1) ∧ min b (x.1 * x.2.1) ≤ b := by omega
      generalize min b (x.1 * x.2.1) = m at hmn ⊢
      have h1 := ih (b := b - m) (fun y hy => ok y (by simp [hy])) (by omega)
      have p0 : 0 ≤ m * stU U x := Int.mul_nonneg (by omega) (by omega)
      have p1 : m * stU U x ≤ m * 300000000 := Int.mul_le_mul_of_nonneg_left q2.2 (by omega)
      omega
    · omega
def bgT (U : Int) (xs : List (Int × Int × Int)) (m : Nat) : List Int := (List.range m).map fun i : Nat => unI U xs i
theorem bgT_succ (U : Int) (xs : List (Int × Int × Int)) (m : Nat) : bgT U xs (m + 1) = bgT U xs m ++ [unI U xs m] := by simp [bgT, List.range_succ]
theorem bgT_len (U : Int) (xs : List (Int × Int × Int)) (m : Nat) : (bgT U xs m).length = m := by simp [bgT]
theorem bgT_get {U : Int} {xs : List (Int × Int × Int)} {m k : Nat} (h : k < m) : (bgT U xs m)[k]? = some (unI U xs k) := by simp [bgT, h]
/-- the beginnings of all beats, and the end -/
def bgL (U : Int) (xs : List (Int × Int × Int)) : List Int := bgT U xs ((btI xs).toNat + 1)
theorem PtB.bF1 {xs : List (Int × Int × Int)} (ok : PtB xs) : ∀ x ∈ xs, 1 ≤ x.1 * x.2.1 := fun x hx => (bF_bd (ok.2 x hx)).1

set_option maxHeartbeats 800000 in
theorem beginsOf_any (A : Option Addr) (n c : Nat) (xs : List (Int × Int × Int)) (U : Int) (w : World) (h : Sl w 3 e3 A n xs) (ok : PtB xs) (hU : 1 ≤ U ∧ U ≤ 100000000) :
    Calls Try.prog 49 #[.slice A n c, .int .i64 U] w (RetOwn 2 1 e1 (bgL U xs) w) := by
  obtain ⟨i0, hi0, hz0, hz1, hz2⟩ := info_parts infoI64
  have hl := ok.1
  have hl2 := h.1
  go_enter Try.func49, Try.ntmps49
  go_wp2_with fail
  have hst : Own (w.alloc (.cells #[] 2)) w.heap.size 2 1 e1 (.slice (some ⟨w.heap.size, 0, none⟩) 0 0) (bgT U xs 0) := Own.lit w _ _ [] 0 (Nat.le_refl _) rfl (by simp [maxLen]) e1_len rfl
  go_loopw [5, 6, 12] (fun v q i wr => ∃ k d : Nat, k ≤ n ∧ i = .int .i64 k ∧ Hid (btK xs k = (d : Int)) ∧ q = .int .i64 (unI U xs d) ∧ Own wr w.heap.size 2 1 e1 v (bgT U xs d) ∧ Below w.heap.size w wr) (fun _ _ i _ => n - (intOf i).toNat)
  case atStart => exact ⟨0, 0, by omega, rfl, rfl, by rw [show (((0 : Nat) : Int)) = 0 from rfl, unI_zero], hst, below_alloc _ _⟩
  case round =>
    obtain ⟨k, d, hk, rfl, hd, rfl, ho, hb⟩ := hrel
    by_cases hlt : k < n
    · obtain ⟨bb, off, x, rfl, hx, hm, c0, c1, c2⟩ := (h.below hb).at3 hlt
      have hx1 := ok.2 x hm
      have q1 := bF_bd hx1
      have q2 := stU_bd hU (show 20 ≤ x.2.2 ∧ x.2.2 ≤ 300 by omega)
      have HBK := Lib.hid (btK_step hx)
      have hbd := ok.btK_bd k
      have hd28 : d ≤ 28800 := by have := hd.out; omega
      have HX := Lib.hid hx
      clear hx
      go_wp2_with fail
      clear c0 c1 c2
      generalize hbx : wr.heap.size = bx
      have hown : Own (wr.alloc (.cells #[.int .i64 x.1, .int .i64 x.2.1, .int .i64 x.2.2] 50)) bx 50 3 e3 (.slice (some ⟨bx, 0, none⟩) 1 1) [x] := by
        subst hbx; exact Own.lit wr _ _ [x] 1 (Nat.le_refl _) rfl (by simp [maxLen]) e3_len rfl
      have ho1 := ho.alloc (.cells #[.int .i64 x.1, .int .i64 x.2.1, .int .i64 x.2.2] 50)
      have hbb : Below w.heap.size w (wr.alloc (.cells #[.int .i64 x.1, .int .i64 x.2.1, .int .i64 x.2.2] 50)) := hb.alloc hb.size _
      have ha0 : Hid (u5.ownBlock ≠ some bx) := by
        intro e
        have := (ho.lt bx e).2
        omega
      obtain ⟨_, _, d2⟩ := (hown.sl e3_len).get3 (i := 0) rfl
      have d2' : (wr.alloc (.cells #[.int .i64 x.1, .int .i64 x.2.1, .int .i64 x.2.2] 50)).cell? ⟨bx, 2, none⟩ = some (.int .i64 x.2.2) := d2
      have hbxs := hown.blt.2
      clear d2 hown ho hbx hb
      generalize wr.alloc (.cells #[.int .i64 x.1, .int .i64 x.2.1, .int .i64 x.2.2] 50) = w1 at d2' ho1 hbb hbxs ⊢
      go_loopw [5, 6, 21] (fun v q i wr => ∃ j : Nat, (j : Int) ≤ x.1 * x.2.1 ∧ i = .int .i64 j ∧ q = .int .i64 (unI U xs ((d + j : Nat) : Int)) ∧ Own wr w.heap.size 2 1 e1 v (bgT U xs (d + j)) ∧ Hid (v.ownBlock ≠ some bx) ∧ wr.cell? ⟨bx, 2, none⟩ = some (.int .i64 x.2.2) ∧ bx < wr.heap.size ∧ Below w.heap.size w wr) (fun _ _ i _ => (x.1 * x.2.1 - intOf i).toNat)
      case atStart => exact ⟨0, by omega, rfl, rfl, ho1, ha0, d2', hbxs, hbb⟩
      case round =>
        obtain ⟨j, hj, rfl, rfl, ho, ha, e2, hsz, hb⟩ := hrel
        by_cases hlt2 : (j : Int) < x.1 * x.2.1
        · have HU := Lib.hid (unI_step (U := U) (j := (j : Int)) ok.bF1 HX.out ⟨by omega, hlt2⟩)
          have HU2 : Hid (unI U xs ((d + (j + 1) : Nat) : Int) = unI U xs ((d + j : Nat) : Int) + 60 * U / x.2.2) := by
            have h1 := HU.out
            rw [hd.out] at h1
            rw [Hid, show (((d + (j + 1) : Nat)) : Int) = (d : Int) + (j : Int) + 1 by omega, show (((d + j : Nat)) : Int) = (d : Int) + (j : Int) by omega]
            exact h1
          have hub := unI_bd (U := U) (xs := xs) (b := ((d + j : Nat) : Int)) ok.2 hU (by omega)
          have hjb : j ≤ 2400 := by omega
          have q3 : 0 ≤ 60 * U / x.2.2 ∧ 60 * U / x.2.2 ≤ 300000000 := q2
          have HG : Hid (bgT U xs (d + (j + 1)) = bgT U xs (d + j) ++ [unI U xs ((d + j : Nat) : Int)]) := bgT_succ U xs (d + j)
          clear HU
          generalize hV : unI U xs ((d + j : Nat) : Int) = V at HU2 hub HG ⊢
          clear hV
          go_wp2_with (at_builtin; refine wpList_app1x rfl (.tmp 23) (.tmp 25) 37 2 rfl w.heap.size i0 _ 1 8 Try.underlying37 hi0 hz0 hz1 hz2 rfl (by decide) e1 e1_len e1_one _ (bgT U xs (d + j)) rfl (ho.alloc _) V _ _ rfl (newcell _ _ _ _ (by simp)) (by rw [bgT_len]; omega) (by rw [bgT_len]; unfold maxLen; omega) (by have := hb.size; simp; omega) ?_; intro v9 w9 ho9 hb9 hg9 hat9; have e9 : w9.cell? ⟨bx, 2, none⟩ = some (.int .i64 x.2.2) := (hg9.cell_far ⟨bx, 2, none⟩ (by simp; omega) (fun h => ha.out h.symm)).trans (cell_al e2 _))
          have ha9 : Hid (v9.ownBlock ≠ some bx) := by
            rcases hat9 with h | h
            · rw [Hid, h]; exact ha.out
            · rw [Hid, h]; intro e; injection e with e; simp at e; omega
          have hb10 := (hb.alloc hb.size _).trans hb9
          have hs9 : bx < w9.heap.size := by have := hb9.size; have := World.block_lt_of_cell? _ _ e9; exact this
          go_roundw
          case rel => exact ⟨j + 1, by omega, by go_num, by rw [HU2.out], by rw [HG.out]; exact ho9, ha9, e9, hs9, hb10⟩
          case measure => simp [intOf]; omega
        · have hjx : (j : Int) = x.1 * x.2.1 := by omega
          have HJ : Hid (btK xs (k + 1) = ((d + j : Nat) : Int)) := by rw [Hid, HBK.out, hd.out]; omega
          clear hjx
          go_wp2_with fail
          go_roundw
          case rel => exact ⟨k + 1, d + j, by omega, by go_num, HJ, rfl, ho, hb⟩
          case measure => simp [intOf]; omega
    · have : k = n := by omega
      subst this
      have hbt := ok.bt_bd
      have HL := Lib.hid h.1
      have HD : Hid ((btI xs).toNat = d) := by
        have h1 := hd.out
        rw [← HL.out, btK_len] at h1
        rw [Hid, h1, Int.toNat_natCast]
      have hd28 : d ≤ 28800 := by have := HD.out; omega
      have HG : Hid (bgL U xs = bgT U xs d ++ [unI U xs (d : Int)]) := by rw [Hid, bgL, HD.out, bgT_succ]
      generalize unI U xs (d : Int) = V at HG ⊢
      go_wp2_with (at_builtin; refine wpList_app1x rfl (.tmp 36) (.tmp 38) 37 2 rfl w.heap.size i0 _ 1 8 Try.underlying37 hi0 hz0 hz1 hz2 rfl (by decide) e1 e1_len e1_one _ (bgT U xs d) rfl (ho.alloc _) V _ _ rfl (newcell _ _ _ _ (by simp)) (by rw [bgT_len]; omega) (by rw [bgT_len]; unfold maxLen; omega) (by have := hb.size; simp; omega) ?_; intro v9 w9 ho9 hb9 hg9 hat9)
      go_ret
      rw [HG.out]
      exact RetOwn.mk ho9 ((hb.alloc hb.size _).trans hb9)

end Go.Proofs.Ytoehlgfjfdfnfaa
