/-
  Contracts of the functions on frames: the total, the frame at a millisecond.
-/
import Derived.Test.YtkjdinhbfoghnaaFrB
namespace Go.Proofs.Ytkjdinhbfoghnaa
open Go.RowKit

theorem totalMillis_any (A : Option Addr) (n c : Nat) (xs : List (Int × Int)) (w : World) (h : Sl w 2 e2 A n xs) (ok : FrOk xs) :
    Calls Try.prog 52 #[.slice A n c] w fun e w' => e = .returned (.int .i64 (tot xs)) ∧ Below w.heap.size w w' := by
  have hn : n ≤ 60 := by rw [← h.1]; exact ok.len
  go_enter Try.func52, Try.ntmps52
  go_wp2_with fail
  refine (begins_any A n c xs _ h ok).mono ?_
  rintro e w2 ⟨A', n', c', rfl, ho, hb⟩
  obtain rfl : n' = n + 1 := by rw [← (ho.sl e1_len).1, begs_len, h.1]
  obtain ⟨b, off, rfl, hc⟩ := (ho.sl e1_len).all1 (by omega)
  have d0 := hc n _ (begs_get (by rw [h.1]; exact Nat.le_refl _))
  clear hc
  go_wp2_with fail
  go_ret
  exact ⟨ret_int (by rw [← h.1, begK_len]), hb⟩

theorem implTotalMillis_any (A : Option Addr) (n c : Nat) (xs : List (Int × Int)) (w : World) (h : Sl w 2 e2 A n xs) (hn : n ≤ 1048577) :
    Calls Try.prog 25 #[.slice A n c] w fun e w' => e = .returned (.tuple #[.int .i64 (totVal xs), .int .i64 (totCode xs)]) ∧ Below w.heap.size w w' := by
  cases hok : frOk xs
  · go_enter Try.func25, Try.ntmps25
    go_wp2_with fail
    refine (implValidFrames_any A n c xs _ h hn).mono ?_
    rintro e w2 ⟨rfl, hb⟩
    go_wp2_with fail
    go_ret2
    exact ⟨by simp [totVal, totCode, hok], hb⟩
  · go_enter Try.func25, Try.ntmps25
    go_wp2_with fail
    refine (implValidFrames_any A n c xs _ h hn).mono ?_
    rintro e w2 ⟨rfl, hb⟩
    go_wp2_with fail
    refine (totalMillis_any A n c xs _ (h.below hb) (frOk_iff.1 hok)).mono ?_
    rintro e w3 ⟨rfl, hb3⟩
    go_wp2_with fail
    go_ret2
    exact ⟨by simp [totVal, totCode, hok], below_step hb hb3⟩

theorem specFrameAt_any (A : Option Addr) (n c : Nat) (xs : List (Int × Int)) (m : Int) (w : World) (h : Sl w 2 e2 A n xs) (hn : n ≤ 1048577) (hm : In64 m) :
    Calls Try.prog 28 #[.slice A n c, .int .i64 m] w fun e w' => e = .returned (.tuple #[.int .i64 (faK xs m), .bool (faL xs m), .int .i64 (faCode xs m)]) ∧ Below w.heap.size w w' := by
  unfold In64 at hm
  cases hok : frOk xs
  · go_enter Try.func28, Try.ntmps28
    go_wp2_with fail
    refine (l16Ok_any A n c xs _ h hn).mono ?_
    rintro e w2 ⟨rfl, rfl⟩
    go_wp2_with fail
    go_ret3
    exact ⟨by simp [faK, faL, faCode, hok], Below.refl _ _⟩
  · have ok := frOk_iff.1 hok
    have hbd := ok.sum_bd
    change 0 ≤ tot xs ∧ tot xs ≤ 1200000 at hbd
    cases hin : inB m 0 (tot xs - 1)
    · go_enter Try.func28, Try.ntmps28
      go_wp2_with fail
      refine (l16Ok_any A n c xs _ h hn).mono ?_
      rintro e w2 ⟨rfl, rfl⟩
      go_wp2_with fail
      refine (l16Total_any A n c xs _ h ok).mono ?_
      rintro e w3 ⟨rfl, hb3⟩
      go_wp2_with fail
      refine (l00In_any _ _ _ _).mono ?_
      rintro e w2 ⟨rfl, rfl⟩
      go_wp2_with fail
      go_ret3
      exact ⟨by simp [faK, faL, faCode, hok, hin], hb3⟩
    · have hmm := inB_true.1 hin
      have hcode : faCode xs m = 0 := by simp [faCode, hok, hin]
      have HC := Lib.hid hcode
      clear hcode
      go_enter Try.func28, Try.ntmps28
      go_wp2_with fail
      refine (l16Ok_any A n c xs _ h hn).mono ?_
      rintro e w2 ⟨rfl, rfl⟩
      go_wp2_with fail
      refine (l16Total_any A n c xs _ h ok).mono ?_
      rintro e w3 ⟨rfl, hb3⟩
      go_wp2_with fail
      refine (l00In_any _ _ _ _).mono ?_
      rintro e w2 ⟨rfl, rfl⟩
      go_wp2_with fail
      go_loopw [1, 7] (fun q i wr => ∃ k : Nat, k ≤ n ∧ i = .int .i64 k ∧ q = .int .i64 (m - begK xs k) ∧ begK xs k ≤ m ∧ Below w.heap.size w wr) (fun _ i _ => n - (intOf i).toNat)
      case atStart => exact ⟨0, by omega, rfl, by simp [begK, sumI], by simp [begK, sumI]; omega, hb3⟩
      case round =>
        obtain ⟨k, hk, rfl, rfl, hkm, hb⟩ := hrel
        by_cases hlt : k < n
        · obtain ⟨b, off, x, rfl, hx, hmx, c0, c1⟩ := (h.below hb).at2 hlt
          have hb1 := ok.one x hmx
          have hb2 := ok.beg_bd k
          have hs := begK_step hx
          have HS := Lib.hid hs; clear hs
          by_cases t1 : m - begK xs k < x.1
          · go_wp2_with fail
            go_ret3
            have ha : isAt xs m k true := ⟨x, hx, hkm, by rw [HS.out]; omega, by simp; omega⟩
            exact ⟨by simp [faK, faL, HC.out, faR_eq ok ha], hb⟩
          · have r1 : IntKind.i64.wrap (x.1 + x.2) = x.1 + x.2 := wr64 (by omega)
            have r2 : IntKind.i64.wrap (m - begK xs k - (x.1 + x.2)) = m - begK xs k - (x.1 + x.2) := wr64 (by omega)
            by_cases t2 : m - begK xs k - (x.1 + x.2) < 0
            · go_wp2_with fail
              go_quiet (fail)
              clear r1 r2
              go_wp2_with fail
              go_ret3
              have ha : isAt xs m k false := ⟨x, hx, hkm, by rw [HS.out]; omega, by simp; omega⟩
              exact ⟨by simp [faK, faL, HC.out, faR_eq ok ha], below_drewN hb _⟩
            · go_wp2_with fail
              go_quiet (fail)
              clear r1 r2
              go_wp2_with fail
              go_roundw
              case rel => exact ⟨k + 1, by omega, by go_num, by rw [HS.out]; go_num, by rw [HS.out]; omega, below_drewN hb _⟩
              case measure => simp [intOf]; omega
        · exfalso
          have : k = n := by omega
          subst this
          rw [← h.1, begK_len] at hkm
          omega
end Go.Proofs.Ytkjdinhbfoghnaa
