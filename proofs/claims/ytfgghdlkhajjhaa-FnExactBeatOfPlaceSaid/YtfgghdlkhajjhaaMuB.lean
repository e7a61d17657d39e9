/-
  Contracts of the functions on pieces: the least tempo.
-/
import Derived.Test.YtfgghdlkhajjhaaMuA
namespace Go.Proofs.Ytfgghdlkhajjhaa
open Go.RowKit

theorem tpGo_hit {m s t : Int} (h : t ≤ 300) (hm : m ≤ s * t) : tpGo m s (301 - t).toNat t = t := by
  obtain ⟨k, hk⟩ : ∃ k : Nat, (301 - t).toNat = k + 1 := ⟨(301 - t).toNat - 1, by omega⟩
  rw [hk, tpGo, if_pos hm]
theorem tpGo_next {m s t : Int} (h : t ≤ 300) (hm : ¬ m ≤ s * t) : tpGo m s (301 - t).toNat t = tpGo m s (301 - (t + 1)).toNat (t + 1) := by
  obtain ⟨k, hk⟩ : ∃ k : Nat, (301 - t).toNat = k + 1 := ⟨(301 - t).toNat - 1, by omega⟩
  have hk2 : (301 - (t + 1)).toNat = k := by omega
  rw [hk, hk2, tpGo, if_neg hm]
theorem tpGo_end {m s t : Int} (h : 300 < t) : tpGo m s (301 - t).toNat t = -1 := by
  have hk : (301 - t).toNat = 0 := by omega
  rw [hk, tpGo]
def tpAll (x : Int × Int × Int) (s : Int) : Int := tpGo (x.1 * x.2.1 * 60) s (301 - 20 : Int).toNat 20
def tpCode (x : Int × Int × Int) (s : Int) : Int := if ptOne x then (if inB s 1 100000 then (if tpAll x s = -1 then 3 else 0) else 2) else 1
def tpVal (x : Int × Int × Int) (s : Int) : Int := if tpCode x s = 0 then tpAll x s else 0
theorem tp_bd {s t : Int} (h1 : 1 ≤ s ∧ s ≤ 100000) (h2 : 20 ≤ t ∧ t ≤ 300) : 0 ≤ s * t ∧ s * t ≤ 30000000 := by
  have a1 : 0 ≤ s * t := Int.mul_nonneg (by omega) (by omega)
  have a2 : s * t ≤ 100000 * 300 := Int.mul_le_mul (by omega) (by omega) (by omega) (by omega)
  omega

theorem specTempoFor_any (x : Int × Int × Int) (s : Int) (w : World) (_hx : In64 x.1 ∧ In64 x.2.1 ∧ In64 x.2.2) (_hs : In64 s) :
    Calls Try.prog 12 #[.agg #[.int .i64 x.1, .int .i64 x.2.1, .int .i64 x.2.2], .int .i64 s] w fun e w' => e = .returned (.tuple #[.int .i64 (tpVal x s), .int .i64 (tpCode x s)]) ∧ Below w.heap.size w w' := by
  have hown : Own (w.alloc (.cells #[.int .i64 x.1, .int .i64 x.2.1, .int .i64 x.2.2] 26)) w.heap.size 26 3 e3 (.slice (some ⟨w.heap.size, 0, none⟩) 1 1) [x] := Own.lit w _ _ [x] 1 (Nat.le_refl _) rfl (by simp [maxLen]) e3_len rfl
  have hb0 := below_alloc w (.cells #[.int .i64 x.1, .int .i64 x.2.1, .int .i64 x.2.2] 26)
  obtain ⟨d0, d1, d2⟩ := (hown.sl e3_len).get3 (i := 0) rfl
  cases hok : ptOne x
  · have H1 : Hid (tpCode x s = 1) := by rw [Hid, tpCode, hok]; rfl
    go_enter Try.func12, Try.ntmps12
    go_wp2_with fail
    refine (l19One_any w.heap.size 0 x _ (by simp) (by simp) (by simp)).mono ?_
    rintro e w2 ⟨rfl, rfl⟩
    have hb3 := hb0
    go_wp2_with fail
    go_ret2
    exact ⟨ret2 (by rw [tpVal, if_neg (by rw [H1.out]; decide)]) H1.out.symm, hb3⟩
  cases hin : inB s 1 100000
  · have H1 : Hid (tpCode x s = 2) := by rw [Hid, tpCode, hok, hin]; rfl
    go_enter Try.func12, Try.ntmps12
    go_wp2_with fail
    refine (l19One_any w.heap.size 0 x _ (by simp) (by simp) (by simp)).mono ?_
    rintro e w2 ⟨rfl, rfl⟩
    have hb3 := hb0
    go_wp2_with fail
    refine (l00In_any _ _ _ _).mono ?_
    rintro e w3 ⟨rfl, rfl⟩
    go_wp2_with fail
    go_ret2
    exact ⟨ret2 (by rw [tpVal, if_neg (by rw [H1.out]; decide)]) H1.out.symm, hb3⟩
  · have ok := ptOne_iff.1 hok
    have hs := inB_true.1 hin
    have HC : Hid (tpCode x s = if tpAll x s = -1 then 3 else 0) := by rw [Hid, tpCode, hok, hin]; rfl
    have bb := bF_bd ok
    have m3 : 60 * x.1 * x.2.1 = x.1 * x.2.1 * 60 := by rw [Int.mul_assoc, Int.mul_comm]
    go_enter Try.func12, Try.ntmps12
    go_wp2_with fail
    refine (l19One_any w.heap.size 0 x _ (by simp) (by simp) (by simp)).mono ?_
    rintro e w2 ⟨rfl, rfl⟩
    have hb3 := hb0
    go_wp2_with fail
    refine (l00In_any _ _ _ _).mono ?_
    rintro e w3 ⟨rfl, rfl⟩
    
    go_wp2_with fail
    generalize w.alloc (.cells #[.int .i64 x.1, .int .i64 x.2.1, .int .i64 x.2.2] 26) = w5 at hb3 d0 d1 d2 ⊢
    go_loopw [6] (fun t wr => ∃ k : Int, 20 ≤ k ∧ k ≤ 301 ∧ t = .int .i64 k ∧ Hid (tpAll x s = tpGo (x.1 * x.2.1 * 60) s (301 - k).toNat k) ∧ wr = w5) (fun t _ => (301 - intOf t).toNat)
    case atStart => exact ⟨20, by omega, by omega, rfl, rfl, rfl⟩
    case round =>
      obtain ⟨k, hk1, hk2, rfl, he, rfl⟩ := hrel
      by_cases hlt : k ≤ 300
      · have tb := tp_bd hs ⟨hk1, hlt⟩
        by_cases q : x.1 * x.2.1 * 60 ≤ s * k
        · have H1 : Hid (tpAll x s = k) := by rw [Hid, he.out, tpGo_hit hlt q]
          have H2 : Hid (tpCode x s = 0) := by rw [Hid, HC.out, if_neg (by rw [H1.out]; omega)]
          go_wp2_with fail
          go_ret2
          exact ⟨ret2 (by rw [tpVal, if_pos H2.out, H1.out]) H2.out.symm, hb3⟩
        · have H1 := Lib.hid (tpGo_next hlt q)
          go_wp2_with fail
          go_roundw
          case rel => exact ⟨k + 1, by omega, by omega, rfl, by rw [Hid, he.out, H1.out], trivial⟩
          case measure => simp [intOf]; omega
      · have H1 : Hid (tpAll x s = -1) := by rw [Hid, he.out, tpGo_end (by omega)]
        have H2 : Hid (tpCode x s = 3) := by rw [Hid, HC.out, if_pos H1.out]
        go_wp2_with fail
        go_ret2
        exact ⟨ret2 (by rw [tpVal, if_neg (by rw [H2.out]; decide)]) H2.out.symm, hb3⟩

theorem implTempoFor_any (x : Int × Int × Int) (s : Int) (w : World) (_hx : In64 x.1 ∧ In64 x.2.1 ∧ In64 x.2.2) (_hs : In64 s) :
    Calls Try.prog 14 #[.agg #[.int .i64 x.1, .int .i64 x.2.1, .int .i64 x.2.2], .int .i64 s] w fun e w' => e = .returned (.tuple #[.int .i64 (tpVal x s), .int .i64 (tpCode x s)]) ∧ Below w.heap.size w w' := by
  have hown : Own (w.alloc (.cells #[.int .i64 x.1, .int .i64 x.2.1, .int .i64 x.2.2] 26)) w.heap.size 26 3 e3 (.slice (some ⟨w.heap.size, 0, none⟩) 1 1) [x] := Own.lit w _ _ [x] 1 (Nat.le_refl _) rfl (by simp [maxLen]) e3_len rfl
  have hb0 := below_alloc w (.cells #[.int .i64 x.1, .int .i64 x.2.1, .int .i64 x.2.2] 26)
  obtain ⟨d0, d1, d2⟩ := (hown.sl e3_len).get3 (i := 0) rfl
  cases hok : ptOne x
  · have H1 : Hid (tpCode x s = 1) := by rw [Hid, tpCode, hok]; rfl
    go_enter Try.func14, Try.ntmps14
    go_wp2_with fail
    refine (validPart_any x _).mono ?_
    rintro e w2 ⟨rfl, hb2⟩
    have hb3 := below_step hb0 hb2
    go_wp2_with fail
    go_ret2
    exact ⟨ret2 (by rw [tpVal, if_neg (by rw [H1.out]; decide)]) H1.out.symm, hb3⟩
  cases hin : inB s 1 100000
  · have H1 : Hid (tpCode x s = 2) := by rw [Hid, tpCode, hok, hin]; rfl
    go_enter Try.func14, Try.ntmps14
    go_wp2_with fail
    refine (validPart_any x _).mono ?_
    rintro e w2 ⟨rfl, hb2⟩
    have hb3 := below_step hb0 hb2
    go_wp2_with fail
    refine (within_any _ _ _ _).mono ?_
    rintro e w3 ⟨rfl, rfl⟩
    go_wp2_with fail
    go_ret2
    exact ⟨ret2 (by rw [tpVal, if_neg (by rw [H1.out]; decide)]) H1.out.symm, hb3⟩
  · have ok := ptOne_iff.1 hok
    have hs := inB_true.1 hin
    have HC : Hid (tpCode x s = if tpAll x s = -1 then 3 else 0) := by rw [Hid, tpCode, hok, hin]; rfl
    have bb := bF_bd ok
    have m3 : 60 * x.1 * x.2.1 = x.1 * x.2.1 * 60 := by rw [Int.mul_assoc, Int.mul_comm]
    go_enter Try.func14, Try.ntmps14
    go_wp2_with fail
    refine (validPart_any x _).mono ?_
    rintro e w2 ⟨rfl, hb2⟩
    have hb3 := below_step hb0 hb2
    go_wp2_with fail
    refine (within_any _ _ _ _).mono ?_
    rintro e w3 ⟨rfl, rfl⟩
    obtain ⟨c0, c1, c2⟩ := ((hown.below hb2).sl e3_len).get3 (i := 0) rfl
    go_wp2_with fail
    skip
    go_loopw [6] (fun t wr => ∃ k : Int, 20 ≤ k ∧ k ≤ 301 ∧ t = .int .i64 k ∧ Hid (tpAll x s = tpGo (x.1 * x.2.1 * 60) s (301 - k).toNat k) ∧ wr = w2) (fun t _ => (301 - intOf t).toNat)
    case atStart => exact ⟨20, by omega, by omega, rfl, rfl, rfl⟩
    case round =>
      obtain ⟨k, hk1, hk2, rfl, he, rfl⟩ := hrel
      by_cases hlt : k ≤ 300
      · have tb := tp_bd hs ⟨hk1, hlt⟩
        by_cases q : x.1 * x.2.1 * 60 ≤ s * k
        · have H1 : Hid (tpAll x s = k) := by rw [Hid, he.out, tpGo_hit hlt q]
          have H2 : Hid (tpCode x s = 0) := by rw [Hid, HC.out, if_neg (by rw [H1.out]; omega)]
          go_wp2_with fail
          go_ret2
          exact ⟨ret2 (by rw [tpVal, if_pos H2.out, H1.out]) H2.out.symm, hb3⟩
        · have H1 := Lib.hid (tpGo_next hlt q)
          go_wp2_with fail
          go_roundw
          case rel => exact ⟨k + 1, by omega, by omega, rfl, by rw [Hid, he.out, H1.out], trivial⟩
          case measure => simp [intOf]; omega
      · have H1 : Hid (tpAll x s = -1) := by rw [Hid, he.out, tpGo_end (by omega)]
        have H2 : Hid (tpCode x s = 3) := by rw [Hid, HC.out, if_pos H1.out]
        go_wp2_with fail
        go_ret2
        exact ⟨ret2 (by rw [tpVal, if_neg (by rw [H2.out]; decide)]) H2.out.symm, hb3⟩

end Go.Proofs.Ytfgghdlkhajjhaa
