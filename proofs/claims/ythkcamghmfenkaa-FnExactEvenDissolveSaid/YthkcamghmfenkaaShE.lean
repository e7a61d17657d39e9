/-
  Contracts of the functions on slides in lanterns: slides at even distances.
-/
import Derived.Test.YthkcamghmfenkaaShD
namespace Go.Proofs.Ythkcamghmfenkaa
open Go.RowKit

def evE (e f : Int) (i : Nat) : Int × Int × Int := ((i : Int) * e, ((i : Int) + 1) * e + f, f)
def evTo (e f : Int) (k : Nat) : List (Int × Int × Int) := (List.range k).map (evE e f)
theorem evTo_succ (e f : Int) (k : Nat) : evTo e f (k + 1) = evTo e f k ++ [evE e f k] := by simp [evTo, List.range_succ]
theorem evTo_len (e f : Int) (k : Nat) : (evTo e f k).length = k := by simp [evTo]
def evCode (m e p : Int) : Int := if inB m 1 12 && inB e 1 500 && inB p 0 500 then 0 else 2
def evVal (m e p : Int) : List (Int × Int × Int) := if evCode m e p = 0 then evTo e p m.toNat else []
theorem evVal_len (m e p : Int) : (evVal m e p).length ≤ 1048577 := by
  unfold evVal
  split
  · rename_i h
    have : inB m 1 12 = true := by
      cases e1 : inB m 1 12
      · simp [evCode, e1] at h
      · rfl
    have := inB_true.1 this
    rw [evTo_len]; omega
  · simp
theorem ev_bd {e : Int} {k : Nat} (he : 1 ≤ e ∧ e ≤ 500) (hk : k < 12) : 0 ≤ (k : Int) * e ∧ (k : Int) * e ≤ 6000 ∧ ((k : Int) + 1) * e = (k : Int) * e + e := by
  have h1 : 0 ≤ (k : Int) * e := Int.mul_nonneg (by omega) (by omega)
  have h2 : (k : Int) * e ≤ 12 * 500 := Int.mul_le_mul (by omega) he.2 (by omega) (by omega)
  refine ⟨h1, by omega, by rw [Int.add_mul]; omega⟩

theorem specEvenDissolve_any (m e p : Int) (w : World) (_hm : In64 m) (_he : In64 e) (_hp : In64 p) :
    Calls Try.prog 19 #[.int .i64 m, .int .i64 e, .int .i64 p] w (RetOwnC 38 3 e3 (evVal m e p) (evCode m e p) w) := by
  obtain ⟨i0, hi0, hz0, hz1, hz2⟩ := info_parts infoShown
  cases h1 : inB m 1 12
  · have H1 : Hid (evCode m e p = 2) := by simp [Hid, evCode, h1]
    have H2 : Hid (evVal m e p = []) := by rw [Hid, evVal, H1.out]; rfl
    go_enter Try.func19, Try.ntmps19
    go_wp2_with (go_at_call 47; refine (l00In_any _ _ _ _).mono ?_; rintro e w' ⟨rfl, rfl⟩)
    go_ret2
    rw [H1.out, H2.out]
    exact RetOwnC.none_ (Below.refl _ _)
  cases h2 : inB e 1 500
  · have H1 : Hid (evCode m e p = 2) := by simp [Hid, evCode, h1, h2]
    have H2 : Hid (evVal m e p = []) := by rw [Hid, evVal, H1.out]; rfl
    go_enter Try.func19, Try.ntmps19
    go_wp2_with (go_at_call 47; refine (l00In_any _ _ _ _).mono ?_; rintro e w' ⟨rfl, rfl⟩)
    go_ret2
    rw [H1.out, H2.out]
    exact RetOwnC.none_ (Below.refl _ _)
  cases h3 : inB p 0 500
  · have H1 : Hid (evCode m e p = 2) := by simp [Hid, evCode, h1, h2, h3]
    have H2 : Hid (evVal m e p = []) := by rw [Hid, evVal, H1.out]; rfl
    go_enter Try.func19, Try.ntmps19
    go_wp2_with (go_at_call 47; refine (l00In_any _ _ _ _).mono ?_; rintro e w' ⟨rfl, rfl⟩)
    go_ret2
    rw [H1.out, H2.out]
    exact RetOwnC.none_ (Below.refl _ _)
  have H1 : Hid (evCode m e p = 0) := by simp [Hid, evCode, h1, h2, h3]
  have H2 : Hid (evVal m e p = evTo e p m.toNat) := by rw [Hid, evVal, if_pos H1.out]
  have b1 := inB_true.1 h1
  have b2 := inB_true.1 h2
  have b3 := inB_true.1 h3
  obtain ⟨M, rfl⟩ : ∃ M : Nat, m = M := ⟨m.toNat, by omega⟩
  go_enter Try.func19, Try.ntmps19
  go_wp2_with (go_at_call 47; refine (l00In_any _ _ _ _).mono ?_; rintro e w' ⟨rfl, rfl⟩)
  have hst : Own (w.alloc (.cells #[] 38)) w.heap.size 38 3 e3 (.slice (some ⟨w.heap.size, 0, none⟩) 0 0) (evTo e p 0) := Own.lit w _ _ [] 0 (Nat.le_refl _) rfl (by simp [maxLen]) e3_len rfl
  go_loopw [8, 9] (fun v i wr => ∃ k : Nat, k ≤ M ∧ i = .int .i64 k ∧ Own wr w.heap.size 38 3 e3 v (evTo e p k) ∧ Below w.heap.size w wr) (fun _ i _ => M - (intOf i).toNat)
  case atStart => exact ⟨0, by omega, rfl, hst, below_alloc _ _⟩
  case round =>
    obtain ⟨k, hk, rfl, ho, hb⟩ := hrel
    by_cases hlt : k < M
    · obtain ⟨m1, m2, m3⟩ := ev_bd (k := k) b2 (by omega)
      have HE : Hid (evE e p k = ((k : Int) * e, (k : Int) * e + e + p, p)) := by rw [Hid, evE, m3]
      go_wp2_with (at_builtin; refine wpList_app1 rfl (.tmp 29) (.tmp 41) 25 38 rfl w.heap.size i0 _ 3 24 Try.underlying25 hi0 hz0 hz1 hz2 rfl (by decide) e3 e3_len e3_one _ (evTo e p k) rfl (ho.alloc _) ((k : Int) * e, (k : Int) * e + e + p, p) _ _ rfl (newcell _ _ _ _ (by simp)) (by rw [evTo_len]; omega) (by rw [evTo_len]; simp [maxLen]; omega) (by have := hb.size; simp; omega) ?_; intro v' w2 ho2 hb2)
      go_roundw
      case rel => exact ⟨k + 1, by omega, by go_num, by rw [evTo_succ, HE.out]; exact ho2, (hb.alloc hb.size _).trans hb2⟩
      case measure => simp [intOf]; omega
    · have : k = M := by omega
      subst this
      go_wp2_with fail
      go_ret2
      rw [H1.out, H2.out]
      exact RetOwnC.mk (by simpa using ho) hb

theorem implEvenDissolve_any (m e p : Int) (w : World) (_hm : In64 m) (_he : In64 e) (_hp : In64 p) :
    Calls Try.prog 20 #[.int .i64 m, .int .i64 e, .int .i64 p] w (RetOwnC 38 3 e3 (evVal m e p) (evCode m e p) w) := by
  obtain ⟨i0, hi0, hz0, hz1, hz2⟩ := info_parts infoShown
  cases h1 : inB m 1 12
  · have H1 : Hid (evCode m e p = 2) := by simp [Hid, evCode, h1]
    have H2 : Hid (evVal m e p = []) := by rw [Hid, evVal, H1.out]; rfl
    go_enter Try.func20, Try.ntmps20
    go_wp2_with (go_at_call 48; refine (within_any _ _ _ _).mono ?_; rintro e w' ⟨rfl, rfl⟩)
    go_ret2
    rw [H1.out, H2.out]
    exact RetOwnC.none_ (Below.refl _ _)
  cases h2 : inB e 1 500
  · have H1 : Hid (evCode m e p = 2) := by simp [Hid, evCode, h1, h2]
    have H2 : Hid (evVal m e p = []) := by rw [Hid, evVal, H1.out]; rfl
    go_enter Try.func20, Try.ntmps20
    go_wp2_with (go_at_call 48; refine (within_any _ _ _ _).mono ?_; rintro e w' ⟨rfl, rfl⟩)
    go_ret2
    rw [H1.out, H2.out]
    exact RetOwnC.none_ (Below.refl _ _)
  cases h3 : inB p 0 500
  · have H1 : Hid (evCode m e p = 2) := by simp [Hid, evCode, h1, h2, h3]
    have H2 : Hid (evVal m e p = []) := by rw [Hid, evVal, H1.out]; rfl
    go_enter Try.func20, Try.ntmps20
    go_wp2_with (go_at_call 48; refine (within_any _ _ _ _).mono ?_; rintro e w' ⟨rfl, rfl⟩)
    go_ret2
    rw [H1.out, H2.out]
    exact RetOwnC.none_ (Below.refl _ _)
  have H1 : Hid (evCode m e p = 0) := by simp [Hid, evCode, h1, h2, h3]
  have H2 : Hid (evVal m e p = evTo e p m.toNat) := by rw [Hid, evVal, if_pos H1.out]
  have b1 := inB_true.1 h1
  have b2 := inB_true.1 h2
  have b3 := inB_true.1 h3
  obtain ⟨M, rfl⟩ : ∃ M : Nat, m = M := ⟨m.toNat, by omega⟩
  go_enter Try.func20, Try.ntmps20
  go_wp2_with (go_at_call 48; refine (within_any _ _ _ _).mono ?_; rintro e w' ⟨rfl, rfl⟩)
  have hst : Own (w.alloc (.cells #[] 38)) w.heap.size 38 3 e3 (.slice (some ⟨w.heap.size, 0, none⟩) 0 0) (evTo e p 0) := Own.lit w _ _ [] 0 (Nat.le_refl _) rfl (by simp [maxLen]) e3_len rfl
  go_loopw [8, 25] (fun v i wr => ∃ k : Nat, k ≤ M ∧ i = .int .i64 k ∧ Own wr w.heap.size 38 3 e3 v (evTo e p k) ∧ Below w.heap.size w wr) (fun _ i _ => M - (intOf i).toNat)
  case atStart => exact ⟨0, by omega, rfl, hst, below_alloc _ _⟩
  case round =>
    obtain ⟨k, hk, rfl, ho, hb⟩ := hrel
    by_cases hlt : k < M
    · obtain ⟨m1, m2, m3⟩ := ev_bd (k := k) b2 (by omega)
      have HE : Hid (evE e p k = ((k : Int) * e, (k : Int) * e + e + p, p)) := by rw [Hid, evE, m3]
      go_wp2_with (at_builtin; refine wpList_app1 rfl (.tmp 28) (.tmp 40) 25 38 rfl w.heap.size i0 _ 3 24 Try.underlying25 hi0 hz0 hz1 hz2 rfl (by decide) e3 e3_len e3_one _ (evTo e p k) rfl (ho.alloc _) ((k : Int) * e, (k : Int) * e + e + p, p) _ _ rfl (newcell _ _ _ _ (by simp)) (by rw [evTo_len]; omega) (by rw [evTo_len]; simp [maxLen]; omega) (by have := hb.size; simp; omega) ?_; intro v' w2 ho2 hb2)
      go_roundw
      case rel => exact ⟨k + 1, by omega, by go_num, by rw [evTo_succ, HE.out]; exact ho2, (hb.alloc hb.size _).trans hb2⟩
      case measure => simp [intOf]; omega
    · have : k = M := by omega
      subst this
      go_wp2_with fail
      go_ret2
      rw [H1.out, H2.out]
      exact RetOwnC.mk (by simpa using ho) hb

end Go.Proofs.Ythkcamghmfenkaa
