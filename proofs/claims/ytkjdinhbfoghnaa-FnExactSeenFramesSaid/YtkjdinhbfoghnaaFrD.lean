/-
  Contracts of the functions on frames: FrameAt of the program, gaps, the least persistence.
-/
import Derived.Test.YtkjdinhbfoghnaaFrC
namespace Go.Proofs.Ytkjdinhbfoghnaa
open Go.RowKit

theorem implFrameAt_any (A : Option Addr) (n c : Nat) (xs : List (Int × Int)) (m : Int) (w : World) (h : Sl w 2 e2 A n xs) (hn : n ≤ 1048577) (hm : In64 m) :
    Calls Try.prog 29 #[.slice A n c, .int .i64 m] w fun e w' => e = .returned (.tuple #[.int .i64 (faK xs m), .bool (faL xs m), .int .i64 (faCode xs m)]) ∧ Below w.heap.size w w' := by
  unfold In64 at hm
  cases hok : frOk xs
  · go_enter Try.func29, Try.ntmps29
    go_wp2_with fail
    refine (implValidFrames_any A n c xs _ h hn).mono ?_
    rintro e w2 ⟨rfl, hb⟩
    go_wp2_with fail
    go_ret3
    exact ⟨by simp [faK, faL, faCode, hok], hb⟩
  · have ok := frOk_iff.1 hok
    have hbd := ok.sum_bd
    change 0 ≤ tot xs ∧ tot xs ≤ 1200000 at hbd
    cases hin : inB m 0 (tot xs - 1)
    · go_enter Try.func29, Try.ntmps29
      go_wp2_with fail
      refine (implValidFrames_any A n c xs _ h hn).mono ?_
      rintro e w2 ⟨rfl, hb2⟩
      go_wp2_with fail
      refine (totalMillis_any A n c xs _ (h.below hb2) ok).mono ?_
      rintro e w3 ⟨rfl, hb3⟩
      go_wp2_with fail
      refine (within_any _ _ _ _).mono ?_
      rintro e w4 ⟨rfl, rfl⟩
      go_wp2_with fail
      go_ret3
      exact ⟨by simp [faK, faL, faCode, hok, hin], below_step hb2 hb3⟩
    · have hmm := inB_true.1 hin
      have hcode : faCode xs m = 0 := by simp [faCode, hok, hin]
      have HC := Lib.hid hcode
      clear hcode
      go_enter Try.func29, Try.ntmps29
      go_wp2_with fail
      refine (implValidFrames_any A n c xs _ h hn).mono ?_
      rintro e w2 ⟨rfl, hb2⟩
      go_wp2_with fail
      refine (totalMillis_any A n c xs _ (h.below hb2) ok).mono ?_
      rintro e w3 ⟨rfl, hb3⟩
      have hb23 := below_step hb2 hb3
      go_wp2_with fail
      refine (within_any _ _ _ _).mono ?_
      rintro e w4 ⟨rfl, rfl⟩
      go_wp2_with fail
      refine (begins_any A n c xs _ (h.below hb23) ok).mono ?_
      rintro e w5 ⟨A', n', c', rfl, ho, hb5⟩
      have hb := below_step hb23 hb5
      have hl := h.1
      obtain rfl : n' = n + 1 := by rw [← (ho.sl e1_len).1, begs_len, hl]
      obtain ⟨b', off', rfl, hc⟩ := (ho.sl e1_len).all1 (by omega)
      have hbt : begK xs n = tot xs := by rw [← hl, begK_len]
      have hpos : 0 < n := by
        rcases Nat.eq_zero_or_pos n with h0 | h0
        · exfalso; rw [h0] at hbt; simp [begK, sumI] at hbt; omega
        · exact h0
      have HBT := Lib.hid hbt; clear hbt
      have HL := Lib.hid hl; clear hl
      go_wp2_with fail
      go_loop [8] (fun i => ∃ k : Nat, k < n ∧ i = .int .i64 k ∧ begK xs k ≤ m) (fun i => n - (intOf i).toNat)
      case atStart => exact ⟨0, hpos, rfl, by simp [begK, sumI]; omega⟩
      case round =>
        obtain ⟨k, hk, rfl, hkm⟩ := hrel
        have d1 := hc (k + 1) _ (begs_get (by rw [HL.out]; omega))
        have d0 := hc k _ (begs_get (by rw [HL.out]; omega))
        by_cases t1 : begK xs (k + 1) ≤ m
        · have hk1 : k + 1 < n := by
            rcases Nat.lt_or_ge (k + 1) n with hlt | hge
            · exact hlt
            · exfalso
              have : k + 1 = n := by omega
              have h2 := HBT.out
              rw [← this] at h2
              omega
          clear hc
          go_wp2_with fail
          go_round
          case rel => exact ⟨k + 1, by omega, by go_num, t1⟩
          case measure => simp [intOf]; omega
        · clear hc
          obtain ⟨b, off, x, rfl, hx, hmx, c0, c1⟩ := (h.below hb).at2 hk
          have hb1 := ok.one x hmx
          have hbb := ok.beg_bd k
          have r1 : IntKind.i64.wrap (begK xs k + x.1) = begK xs k + x.1 := wr64 (by omega)
          have ha : isAt xs m k (decide (m < begK xs k + x.1)) := ⟨x, hx, hkm, by omega, rfl⟩
          have HA := Lib.hid ha; clear ha
          go_wp2_with fail
          go_quiet (fail)
          clear r1
          go_wp2_with fail
          go_ret3
          exact ⟨by simp [faK, faL, HC.out, faR_eq ok HA.out], below_drewN hb _⟩

/-- the code of frames and a persistence -/
def perCode (xs : List (Int × Int)) (p : Int) : Int := if frOk xs then (if inB p 0 500 then 0 else 2) else 1

def gapsVal (xs : List (Int × Int)) (p : Int) : Int := if perCode xs p = 0 then gaps xs p else 0

theorem framesCode_any (A : Option Addr) (n c : Nat) (xs : List (Int × Int)) (p : Int) (w : World) (h : Sl w 2 e2 A n xs) (hn : n ≤ 1048577) :
    Calls Try.prog 56 #[.slice A n c, .int .i64 p] w fun e w' => e = .returned (.int .i64 (perCode xs p)) ∧ Below w.heap.size w w' := by
  cases hok : frOk xs <;> cases hin : inB p 0 500
  all_goals
    go_enter Try.func56, Try.ntmps56
    go_wp2_with fail
    refine (implValidFrames_any A n c xs _ h hn).mono ?_
    rintro e w2 ⟨rfl, hb⟩
    go_wp2_with (go_at_call 48; refine (within_any _ _ _ _).mono ?_; rintro e w' ⟨rfl, rfl⟩)
    go_ret
    exact ⟨ret_int (by simp [perCode, hok, hin]), hb⟩

theorem l16Persist_any (p : Int) (w : World) : Calls Try.prog 55 #[.int .i64 p] w fun e w' => e = .returned (.bool (inB p 0 500)) ∧ w = w' := by
  go_enter Try.func55, Try.ntmps55
  go_wp2_with (go_at_call 49; refine (l00In_any _ _ _ _).mono ?_; rintro e w' ⟨rfl, rfl⟩)
  go_ret
  exact ⟨rfl, rfl⟩

theorem specGapsSeen_any (A : Option Addr) (n c : Nat) (xs : List (Int × Int)) (p : Int) (w : World) (h : Sl w 2 e2 A n xs) (hn : n ≤ 1048577) (_hp : In64 p) :
    Calls Try.prog 30 #[.slice A n c, .int .i64 p] w fun e w' => e = .returned (.tuple #[.int .i64 (gapsVal xs p), .int .i64 (perCode xs p)]) ∧ Below w.heap.size w w' := by
  cases hok : frOk xs
  · go_enter Try.func30, Try.ntmps30
    go_wp2_with fail
    refine (l16Ok_any A n c xs _ h hn).mono ?_
    rintro e w2 ⟨rfl, rfl⟩
    go_wp2_with fail
    go_ret2
    exact ⟨by simp [gapsVal, perCode, hok], Below.refl _ _⟩
  · cases hin : inB p 0 500
    · go_enter Try.func30, Try.ntmps30
      go_wp2_with fail
      refine (l16Ok_any A n c xs _ h hn).mono ?_
      rintro e w2 ⟨rfl, rfl⟩
      go_wp2_with fail
      refine (l16Persist_any _ _).mono ?_
      rintro e w2 ⟨rfl, rfl⟩
      go_wp2_with fail
      go_ret2
      exact ⟨by simp [gapsVal, perCode, hok, hin], Below.refl _ _⟩
    · have ok := frOk_iff.1 hok
      have hpp := inB_true.1 hin
      have hn60 : n ≤ 60 := by rw [← h.1]; exact ok.len
      have HC : Hid (perCode xs p = 0) := by simp [Hid, perCode, hok, hin]
      go_enter Try.func30, Try.ntmps30
      go_wp2_with fail
      refine (l16Ok_any A n c xs _ h hn).mono ?_
      rintro e w2 ⟨rfl, rfl⟩
      go_wp2_with fail
      refine (l16Persist_any _ _).mono ?_
      rintro e w2 ⟨rfl, rfl⟩
      go_wp2_with fail
      go_loopw [6, 7, 8, 9] (fun s a u i wr => ∃ k : Nat, k ≤ n ∧ i = .int .i64 k ∧ s = .int .i64 (gapsTo xs p k) ∧ a = .int .i64 (begK xs k) ∧ u = .int .i64 (untilTo xs p k) ∧ Below w.heap.size w wr) (fun _ _ _ i _ => n - (intOf i).toNat)
      case atStart => exact ⟨0, by omega, rfl, rfl, by simp [begK, sumI], rfl, Below.refl _ _⟩
      case round =>
        obtain ⟨k, hk, rfl, rfl, rfl, rfl, hb⟩ := hrel
        by_cases hlt : k < n
        · obtain ⟨b, off, x, rfl, hx, hmx, c0, c1⟩ := (h.below hb).at2 hlt
          have hb1 := ok.one x hmx
          have hb2 := ok.beg_bd k
          have hb3 := ok.until_bd hpp.1 hpp.2 k
          have hb4 := ok.gaps_bd hpp.1 hpp.2 k
          have HS := Lib.hid (begK_step hx)
          have HU := Lib.hid (untilTo_succ (p := p) hx)
          have HG := Lib.hid (gapsTo_succ xs p k)
          have r1 : IntKind.i64.wrap (x.1 + x.2) = x.1 + x.2 := wr64 (by omega)
          have r2 : IntKind.i64.wrap (begK xs k + (x.1 + x.2)) = begK xs k + (x.1 + x.2) := wr64 (by omega)
          go_wp2_with fail
          refine (l00Max_any _ _ _).mono ?_
          rintro e w2 ⟨rfl, rfl⟩
          have hm1 : max (untilTo xs p k) (begK xs k + x.1 + p) ≤ 1300000 := by omega
          have hm0 : 0 ≤ max (untilTo xs p k) (begK xs k + x.1 + p) := by omega
          go_wp2_with fail
          go_quiet (fail)
          clear r1 r2
          go_wp2_with fail
          refine (l00Max_any _ _ _).mono ?_
          rintro e w2 ⟨rfl, rfl⟩
          have hm2 : max 0 (begK xs k + (x.1 + x.2) - max (untilTo xs p k) (begK xs k + x.1 + p)) ≤ 1300000 := by omega
          have hm3 : 0 ≤ max 0 (begK xs k + (x.1 + x.2) - max (untilTo xs p k) (begK xs k + x.1 + p)) := by omega
          go_wp2_with fail
          go_roundw
          case rel => exact ⟨k + 1, by omega, by go_num, by rw [HG.out, HU.out, HS.out], by rw [HS.out], by rw [HU.out], below_drewN hb _⟩
          case measure => simp [intOf]; omega
        · go_wp2_with fail
          go_ret2
          have : k = n := by omega
          subst this
          exact ⟨ret2 (by rw [gapsVal, if_pos HC.out, gaps, h.1]) HC.out.symm, hb⟩

theorem gapsSeen_any (A : Option Addr) (n c : Nat) (xs : List (Int × Int)) (p : Int) (w : World) (h : Sl w 2 e2 A n xs) (ok : FrOk xs) (hp : 0 ≤ p) (hp2 : p ≤ 500) :
    Calls Try.prog 53 #[.slice A n c, .int .i64 p] w fun e w' => e = .returned (.int .i64 (gaps xs p)) ∧ Below w.heap.size w w' := by
  have hn60 : n ≤ 60 := by rw [← h.1]; exact ok.len
  go_enter Try.func53, Try.ntmps53
  go_wp2_with fail
  refine (begins_any A n c xs _ h ok).mono ?_
  rintro e w5 ⟨A', n', c', rfl, ho, hb5⟩
  have hl := h.1
  obtain rfl : n' = n + 1 := by rw [← (ho.sl e1_len).1, begs_len, hl]
  have HL := Lib.hid hl; clear hl
  go_wp2_with fail
  go_loopw [5, 6, 14] (fun s u i wr => ∃ k : Nat, k ≤ n ∧ i = .int .i64 k ∧ s = .int .i64 (gapsUpto xs p k) ∧ u = .int .i64 (untilTo xs p k) ∧ Below w.heap.size w wr ∧ Below w5.heap.size w5 wr) (fun _ _ i _ => n - (intOf i).toNat)
  case atStart => exact ⟨0, by omega, rfl, rfl, rfl, hb5, Below.refl _ _⟩
  case round =>
    obtain ⟨k, hk, rfl, rfl, rfl, hb, hbk⟩ := hrel
    obtain ⟨b', off', rfl, hc⟩ := ((ho.below hbk).sl e1_len).all1 (by omega)
    have d0 := hc k _ (begs_get (by rw [HL.out]; omega))
    clear hc
    have hb2 := ok.beg_bd k
    have hb3 := ok.until_bd hp hp2 k
    have hb4 := ok.gapsUpto_bd hp hp2 k
    have hm2 : max (begK xs k - untilTo xs p k) 0 ≤ 1300000 := by omega
    have hm3 : 0 ≤ max (begK xs k - untilTo xs p k) 0 := by omega
    have HG := Lib.hid (gapsUpto_succ xs p k)
    by_cases hlt : k < n
    · obtain ⟨b, off, x, rfl, hx, hmx, c0, c1⟩ := (h.below hb).at2 hlt
      have hb1 := ok.one x hmx
      have HU := Lib.hid (ok.until_eq hp k x hx)
      have hle := ok.until_le hp k (by rw [HL.out]; omega)
      have r1 : IntKind.i64.wrap (begK xs k + x.1) = begK xs k + x.1 := wr64 (by omega)
      have r2 : IntKind.i64.wrap (begK xs k + x.1 + p) = begK xs k + x.1 + p := wr64 (by omega)
      have d0' := cell_al d0
      have hif : untilTo xs p k < begK xs k + x.1 + p := by omega
      by_cases t1 : begK xs k - untilTo xs p k < 0
      all_goals
        go_wp2_with fail
        go_quiet (fail)
        clear r1 r2
        go_wp2_with fail
        go_roundw
        case rel => exact ⟨k + 1, by omega, by go_num, by rw [HG.out]; go_num, by rw [HU.out], below_drewN (hb.alloc hb.size _) _, below_drewN (hbk.alloc hbk.size _) _⟩
        case measure => simp [intOf]; omega
    · have : k = n := by omega
      subst this
      have HE := Lib.hid (gapsUpto_gaps xs p k)
      by_cases t1 : begK xs k - untilTo xs p k < 0
      all_goals
        go_wp2_with fail
        go_ret
        exact ⟨ret_int (by rw [gaps, HL.out, ← HE.out]; omega), hb⟩
end Go.Proofs.Ytkjdinhbfoghnaa
