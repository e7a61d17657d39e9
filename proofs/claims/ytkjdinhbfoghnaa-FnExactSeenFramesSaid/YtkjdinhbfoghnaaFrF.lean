/-
  Contracts of the functions on frames: the frames that are seen, and how many at most.
-/
import Derived.Test.YtkjdinhbfoghnaaFrE
namespace Go.Proofs.Ytkjdinhbfoghnaa
open Go.RowKit

/-- the code of SeenFrames -/
def seenCode (xs : List (Int × Int)) (p m : Int) : Int := if perCode xs p = 0 then (if inB m 0 10000000 then 0 else 2) else perCode xs p
def seenVal (xs : List (Int × Int)) (p m : Int) : List Int := if seenCode xs p m = 0 then seen xs p m else []
theorem perCode_cases (xs : List (Int × Int)) (p : Int) : (perCode xs p = 1 ∧ frOk xs = false) ∨ (perCode xs p = 2 ∧ frOk xs = true ∧ inB p 0 500 = false) ∨ (perCode xs p = 0 ∧ frOk xs = true ∧ inB p 0 500 = true) := by
  unfold perCode
  cases frOk xs <;> cases inB p 0 500 <;> simp
theorem seenVal_len (xs : List (Int × Int)) (p m : Int) (h : xs.length ≤ 1048576) : (seenVal xs p m).length ≤ 1048577 := by
  unfold seenVal
  split
  · have := seenTo_len xs p m xs.length; unfold seen; omega
  · simp

theorem specSeenFrames_any (A : Option Addr) (n c : Nat) (xs : List (Int × Int)) (p m : Int) (w : World) (h : Sl w 2 e2 A n xs) (hn : n ≤ 1048577) (_hp : In64 p) (_hm : In64 m) :
    Calls Try.prog 37 #[.slice A n c, .int .i64 p, .int .i64 m] w (RetOwnC 2 1 e1 (seenVal xs p m) (seenCode xs p m) w) := by
  rcases perCode_cases xs p with ⟨hc, hok⟩ | ⟨hc, hok, hin⟩ | ⟨hc, hok, hin⟩
  · have H1 : Hid (seenCode xs p m = 1) := by rw [Hid, seenCode, if_neg (by rw [hc]; decide), hc]
    have H2 : Hid (seenVal xs p m = []) := by rw [Hid, seenVal, H1.out]; rfl
    clear hc
    go_enter Try.func37, Try.ntmps37
    go_wp2_with fail
    refine (l16Ok_any A n c xs _ h hn).mono ?_
    rintro e w2 ⟨rfl, rfl⟩
    go_wp2_with fail
    go_ret2
    rw [H1.out, H2.out]
    exact RetOwnC.none_ (Below.refl _ _)
  · have H1 : Hid (seenCode xs p m = 2) := by rw [Hid, seenCode, if_neg (by rw [hc]; decide), hc]
    have H2 : Hid (seenVal xs p m = []) := by rw [Hid, seenVal, H1.out]; rfl
    clear hc
    go_enter Try.func37, Try.ntmps37
    go_wp2_with fail
    refine (l16Ok_any A n c xs _ h hn).mono ?_
    rintro e w2 ⟨rfl, rfl⟩
    go_wp2_with fail
    refine (l16Persist_any _ _).mono ?_
    rintro e w2 ⟨rfl, rfl⟩
    go_wp2_with fail
    go_ret2
    rw [H1.out, H2.out]
    exact RetOwnC.none_ (Below.refl _ _)
  · have ok := frOk_iff.1 hok
    have hpp := inB_true.1 hin
    cases hm : inB m 0 10000000
    · have H1 : Hid (seenCode xs p m = 2) := by rw [Hid, seenCode, if_pos hc, hm]; rfl
      have H2 : Hid (seenVal xs p m = []) := by rw [Hid, seenVal, H1.out]; rfl
      clear hc
      go_enter Try.func37, Try.ntmps37
      go_wp2_with fail
      refine (l16Ok_any A n c xs _ h hn).mono ?_
      rintro e w2 ⟨rfl, rfl⟩
      go_wp2_with fail
      refine (l16Persist_any _ _).mono ?_
      rintro e w2 ⟨rfl, rfl⟩
      go_wp2_with fail
      refine (l00In_any _ _ _ _).mono ?_
      rintro e w2 ⟨rfl, rfl⟩
      go_wp2_with fail
      go_ret2
      rw [H1.out, H2.out]
      exact RetOwnC.none_ (Below.refl _ _)
    · have H1 : Hid (seenCode xs p m = 0) := by rw [Hid, seenCode, if_pos hc, hm]; rfl
      have H2 : Hid (seenVal xs p m = seen xs p m) := by rw [Hid, seenVal, if_pos H1.out]
      clear hc
      go_enter Try.func37, Try.ntmps37
      go_wp2_with fail
      refine (l16Ok_any A n c xs _ h hn).mono ?_
      rintro e w2 ⟨rfl, rfl⟩
      go_wp2_with fail
      refine (l16Persist_any _ _).mono ?_
      rintro e w2 ⟨rfl, rfl⟩
      go_wp2_with fail
      refine (l00In_any _ _ _ _).mono ?_
      rintro e w2 ⟨rfl, rfl⟩
      go_wp2_with fail
      refine (l16Seen_any A n c xs p m _ h ok hpp.1 hpp.2).mono ?_
      rintro e w2 ⟨A', n', c', rfl, ho, hb⟩
      go_wp2_with fail
      go_ret2
      rw [H1.out, H2.out]
      exact RetOwnC.mk ho hb

theorem implSeenFrames_any (A : Option Addr) (n c : Nat) (xs : List (Int × Int)) (p m : Int) (w : World) (h : Sl w 2 e2 A n xs) (hn : n ≤ 1048577) (_hp : In64 p) (_hm : In64 m) :
    Calls Try.prog 38 #[.slice A n c, .int .i64 p, .int .i64 m] w (RetOwnC 2 1 e1 (seenVal xs p m) (seenCode xs p m) w) := by
  rcases perCode_cases xs p with ⟨hc, hok⟩ | ⟨hc, hok, hin⟩ | ⟨hc, hok, hin⟩
  · have H1 : Hid (seenCode xs p m = 1) := by rw [Hid, seenCode, if_neg (by rw [hc]; decide), hc]
    have H2 : Hid (seenVal xs p m = []) := by rw [Hid, seenVal, H1.out]; rfl
    have HC := Lib.hid hc
    clear hc
    go_enter Try.func38, Try.ntmps38
    go_wp2_with fail
    refine (framesCode_any A n c xs p _ h hn).mono ?_
    rintro e w2 ⟨rfl, hb⟩
    rw [HC.out]
    go_wp2_with fail
    go_ret2
    rw [H1.out, H2.out]
    exact RetOwnC.none_ hb
  · have H1 : Hid (seenCode xs p m = 2) := by rw [Hid, seenCode, if_neg (by rw [hc]; decide), hc]
    have H2 : Hid (seenVal xs p m = []) := by rw [Hid, seenVal, H1.out]; rfl
    have HC := Lib.hid hc
    clear hc
    go_enter Try.func38, Try.ntmps38
    go_wp2_with fail
    refine (framesCode_any A n c xs p _ h hn).mono ?_
    rintro e w2 ⟨rfl, hb⟩
    rw [HC.out]
    go_wp2_with fail
    go_ret2
    rw [H1.out, H2.out]
    exact RetOwnC.none_ hb
  · have ok := frOk_iff.1 hok
    have hpp := inB_true.1 hin
    cases hm : inB m 0 10000000
    · have H1 : Hid (seenCode xs p m = 2) := by rw [Hid, seenCode, if_pos hc, hm]; rfl
      have H2 : Hid (seenVal xs p m = []) := by rw [Hid, seenVal, H1.out]; rfl
      have HC := Lib.hid hc
      clear hc
      go_enter Try.func38, Try.ntmps38
      go_wp2_with fail
      refine (framesCode_any A n c xs p _ h hn).mono ?_
      rintro e w2 ⟨rfl, hb⟩
      rw [HC.out]
      go_wp2_with fail
      refine (within_any _ _ _ _).mono ?_
      rintro e w3 ⟨rfl, rfl⟩
      go_wp2_with fail
      go_ret2
      rw [H1.out, H2.out]
      exact RetOwnC.none_ hb
    · have H1 : Hid (seenCode xs p m = 0) := by rw [Hid, seenCode, if_pos hc, hm]; rfl
      have H2 : Hid (seenVal xs p m = seen xs p m) := by rw [Hid, seenVal, if_pos H1.out]
      have HC := Lib.hid hc
      clear hc
      go_enter Try.func38, Try.ntmps38
      go_wp2_with fail
      refine (framesCode_any A n c xs p _ h hn).mono ?_
      rintro e w2 ⟨rfl, hb⟩
      rw [HC.out]
      go_wp2_with fail
      refine (within_any _ _ _ _).mono ?_
      rintro e w3 ⟨rfl, rfl⟩
      go_wp2_with fail
      refine (seenFrames_any A n c xs p m _ (h.below hb) ok hpp.1 hpp.2).mono ?_
      rintro e w4 ⟨A', n', c', rfl, ho, hb4⟩
      go_wp2_with fail
      go_ret2
      rw [H1.out, H2.out]
      exact RetOwnC.mk (ho.mono hb.size) (below_step hb hb4)

def blurVal (xs : List (Int × Int)) (p : Int) : Int := if perCode xs p = 0 then blurTo xs p xs.length else 0

theorem specBlurOf_any (A : Option Addr) (n c : Nat) (xs : List (Int × Int)) (p : Int) (w : World) (h : Sl w 2 e2 A n xs) (hn : n ≤ 1048577) (_hp : In64 p) :
    Calls Try.prog 32 #[.slice A n c, .int .i64 p] w fun e w' => e = .returned (.tuple #[.int .i64 (blurVal xs p), .int .i64 (perCode xs p)]) ∧ Below w.heap.size w w' := by
  rcases perCode_cases xs p with ⟨hc, hok⟩ | ⟨hc, hok, hin⟩ | ⟨hc, hok, hin⟩
  · have HC := Lib.hid hc
    clear hc
    go_enter Try.func32, Try.ntmps32
    go_wp2_with fail
    refine (l16Ok_any A n c xs _ h hn).mono ?_
    rintro e w2 ⟨rfl, rfl⟩
    go_wp2_with fail
    go_ret2
    exact ⟨ret2 (by rw [blurVal, HC.out]; rfl) HC.out.symm, Below.refl _ _⟩
  · have HC := Lib.hid hc
    clear hc
    go_enter Try.func32, Try.ntmps32
    go_wp2_with fail
    refine (l16Ok_any A n c xs _ h hn).mono ?_
    rintro e w2 ⟨rfl, rfl⟩
    go_wp2_with fail
    refine (l16Persist_any _ _).mono ?_
    rintro e w2 ⟨rfl, rfl⟩
    go_wp2_with fail
    go_ret2
    exact ⟨ret2 (by rw [blurVal, HC.out]; rfl) HC.out.symm, Below.refl _ _⟩
  · have HC := Lib.hid hc
    clear hc
    have ok := frOk_iff.1 hok
    have hpp := inB_true.1 hin
    have hn60 : n ≤ 60 := by rw [← h.1]; exact ok.len
    have HL := Lib.hid h.1
    go_enter Try.func32, Try.ntmps32
    go_wp2_with fail
    refine (l16Ok_any A n c xs _ h hn).mono ?_
    rintro e w2 ⟨rfl, rfl⟩
    go_wp2_with fail
    refine (l16Persist_any _ _).mono ?_
    rintro e w2 ⟨rfl, rfl⟩
    go_wp2_with fail
    go_loopw [6, 7, 8] (fun s a i wr => ∃ k : Nat, k ≤ n ∧ i = .int .i64 k ∧ s = .int .i64 (blurTo xs p k) ∧ a = .int .i64 (begK xs k) ∧ Below w.heap.size w wr) (fun _ _ i _ => n - (intOf i).toNat)
    case atStart => exact ⟨0, by omega, rfl, by simp [blurTo], by simp [begK, sumI], Below.refl _ _⟩
    case round =>
      obtain ⟨k, hk, rfl, rfl, rfl, hb⟩ := hrel
      by_cases hlt : k < n
      · have HB := Lib.hid (blurTo_succ xs p k)
        have hb2 := ok.beg_bd k
        have HN := Lib.hid (blurTo_nn xs p k)
        have HSL := Lib.hid (seenTo_len xs p (begK xs k) xs.length)
        go_wp2_with fail
        refine (l16Seen_any A n c xs p (begK xs k) _ (h.below hb) ok hpp.1 hpp.2).mono ?_
        rintro e w4 ⟨A', n', c', rfl, ho, hb4⟩
        have hl4 := (ho.sl e1_len).1
        have hb5 := below_mid hb hb4 hb.size
        have HL4 := Lib.hid hl4
        have hn4 : n' ≤ 60 := by rw [← hl4]; have h1 := HSL.out; have h2 := HL.out; unfold seen; omega
        clear hl4
        go_wp2_with fail
        refine (l00Max_any _ _ _).mono ?_
        rintro e w6 ⟨rfl, rfl⟩
        obtain ⟨b, off, x, rfl, hx, hmx, c0, c1⟩ := (h.below hb5).at2 hlt
        have hb1 := ok.one x hmx
        have HS := Lib.hid (begK_step hx)
        have r1 : IntKind.i64.wrap (x.1 + x.2) = x.1 + x.2 := wr64 (by omega)
        have r2 : IntKind.i64.wrap (begK xs k + (x.1 + x.2)) = begK xs k + (x.1 + x.2) := wr64 (by omega)
        go_wp2_with fail
        go_quiet (fail)
        clear r1 r2
        go_wp2_with fail
        go_roundw
        case rel => exact ⟨k + 1, by omega, by go_num, by rw [HB.out, HL4.out], by rw [HS.out], below_drewN hb5 _⟩
        case measure => simp [intOf]; omega
      · have : k = n := by omega
        subst this
        go_wp2_with fail
        go_ret2
        exact ⟨ret2 (by rw [blurVal, if_pos HC.out, HL.out]) HC.out.symm, hb⟩

theorem implBlurOf_any (A : Option Addr) (n c : Nat) (xs : List (Int × Int)) (p : Int) (w : World) (h : Sl w 2 e2 A n xs) (hn : n ≤ 1048577) (_hp : In64 p) :
    Calls Try.prog 33 #[.slice A n c, .int .i64 p] w fun e w' => e = .returned (.tuple #[.int .i64 (blurVal xs p), .int .i64 (perCode xs p)]) ∧ Below w.heap.size w w' := by
  rcases perCode_cases xs p with ⟨hc, hok⟩ | ⟨hc, hok, hin⟩ | ⟨hc, hok, hin⟩
  · have HC := Lib.hid hc
    clear hc
    go_enter Try.func33, Try.ntmps33
    go_wp2_with fail
    refine (framesCode_any A n c xs p _ h hn).mono ?_
    rintro e w2 ⟨rfl, hb⟩
    rw [HC.out]
    go_wp2_with fail
    go_ret2
    exact ⟨ret2 (by rw [blurVal, HC.out]; rfl) HC.out.symm, hb⟩
  · have HC := Lib.hid hc
    clear hc
    go_enter Try.func33, Try.ntmps33
    go_wp2_with fail
    refine (framesCode_any A n c xs p _ h hn).mono ?_
    rintro e w2 ⟨rfl, hb⟩
    rw [HC.out]
    go_wp2_with fail
    go_ret2
    exact ⟨ret2 (by rw [blurVal, HC.out]; rfl) HC.out.symm, hb⟩
  · have HC := Lib.hid hc
    clear hc
    have ok := frOk_iff.1 hok
    have hpp := inB_true.1 hin
    have hn60 : n ≤ 60 := by rw [← h.1]; exact ok.len
    have HL := Lib.hid h.1
    go_enter Try.func33, Try.ntmps33
    go_wp2_with fail
    refine (framesCode_any A n c xs p _ h hn).mono ?_
    rintro e w2 ⟨rfl, hb⟩
    rw [HC.out]
    go_wp2_with fail
    refine (begins_any A n c xs _ (h.below hb) ok).mono ?_
    rintro e w5 ⟨A', n', c', rfl, ho5, hb5⟩
    obtain rfl : n' = n + 1 := by rw [← (ho5.sl e1_len).1, begs_len, HL.out]
    have hbb := below_step hb hb5
    have hs5 := ho5.sl e1_len
    clear ho5
    go_wp2_with fail
    go_loopw [7, 19] (fun s i wr => ∃ k : Nat, k ≤ n + 1 ∧ i = .int .i64 k ∧ s = .int .i64 (blurTo xs p k) ∧ Below w.heap.size w wr ∧ Sl wr 1 e1 A' (n + 1) (begs xs)) (fun _ i _ => n + 1 - (intOf i).toNat)
    case atStart => exact ⟨0, by omega, rfl, by simp [blurTo], hbb, hs5⟩
    case round =>
      obtain ⟨k, hk, rfl, rfl, hbr, hs⟩ := hrel
      have HN := Lib.hid (blurTo_nn xs p k)
      by_cases hlt : k < n + 1
      · obtain ⟨b', off', rfl, hc⟩ := hs.all1 (by omega)
        have d0 := hc k _ (begs_get (by rw [HL.out]; omega))
        clear hc
        have HB := Lib.hid (blurTo_succ xs p k)
        have HSL := Lib.hid (seenTo_len xs p (begK xs k) xs.length)
        go_wp2_with fail
        refine (seenFrames_any A n c xs p (begK xs k) _ (h.below hbr) ok hpp.1 hpp.2).mono ?_
        rintro e w4 ⟨A', n', c', rfl, ho, hb4⟩
        have hl4 := (ho.sl e1_len).1
        have HL4 := Lib.hid hl4
        have hn4 : n' ≤ 60 := by rw [← hl4]; have h1 := HSL.out; have h2 := HL.out; unfold seen; omega
        clear hl4
        go_wp2_with fail
        all_goals go_roundw
        case rel => exact ⟨k + 1, by omega, by go_num, by rw [HB.out, HL4.out]; go_num, below_mid hbr hb4 hbr.size, hs.below hb4⟩
        case measure => simp [intOf]; omega
      · have : k = n + 1 := by omega
        have HK := Lib.hid this
        clear this
        go_wp2_with fail
        go_ret2
        exact ⟨ret2 (by rw [blurVal, if_pos HC.out, HK.out, ← HL.out, blur_end ok]) HC.out.symm, hbr⟩
end Go.Proofs.Ytkjdinhbfoghnaa
