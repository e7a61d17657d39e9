/-
  Contracts of the functions on frames: the least persistence, the frames that are seen.
-/
import Derived.Test.YtkjdinhbfoghnaaFrD
namespace Go.Proofs.Ytkjdinhbfoghnaa
open Go.RowKit

theorem implGapsSeen_any (A : Option Addr) (n c : Nat) (xs : List (Int × Int)) (p : Int) (w : World) (h : Sl w 2 e2 A n xs) (hn : n ≤ 1048577) (_hp : In64 p) :
    Calls Try.prog 31 #[.slice A n c, .int .i64 p] w fun e w' => e = .returned (.tuple #[.int .i64 (gapsVal xs p), .int .i64 (perCode xs p)]) ∧ Below w.heap.size w w' := by
  cases hc : (perCode xs p == 0)
  · have hne : perCode xs p ≠ 0 := by simpa using hc
    have H := Lib.hid hne; clear hne
    go_enter Try.func31, Try.ntmps31
    go_wp2_with fail
    refine (framesCode_any A n c xs p _ h hn).mono ?_
    rintro e w2 ⟨rfl, hb⟩
    have hc2 : (perCode xs p != 0) = true := by simp [H.out]
    go_wp2_with fail
    go_ret2
    exact ⟨ret2 (by rw [gapsVal, if_neg H.out]) rfl, hb⟩
  · have hz : perCode xs p = 0 := by simpa using hc
    have hok : frOk xs = true := by
      cases e : frOk xs
      · simp [perCode, e] at hz
      · rfl
    have hin : inB p 0 500 = true := by
      cases e : inB p 0 500
      · simp [perCode, hok, e] at hz
      · rfl
    have hpp := inB_true.1 hin
    have H := Lib.hid hz; clear hz hc
    go_enter Try.func31, Try.ntmps31
    go_wp2_with fail
    refine (framesCode_any A n c xs p _ h hn).mono ?_
    rintro e w2 ⟨rfl, hb⟩
    rw [H.out]
    go_wp2_with fail
    refine (gapsSeen_any A n c xs p _ (h.below hb) (frOk_iff.1 hok) hpp.1 hpp.2).mono ?_
    rintro e w3 ⟨rfl, hb3⟩
    go_wp2_with fail
    go_ret2
    exact ⟨ret2 (by rw [gapsVal, if_pos H.out]) H.out.symm, below_step hb hb3⟩

theorem specLeastPersist_any (A : Option Addr) (n c : Nat) (xs : List (Int × Int)) (w : World) (h : Sl w 2 e2 A n xs) (hn : n ≤ 1048577) :
    Calls Try.prog 26 #[.slice A n c] w fun e w' => e = .returned (.tuple #[.int .i64 (leastVal xs), .int .i64 (leastCode xs)]) ∧ Below w.heap.size w w' := by
  cases hok : frOk xs
  · go_enter Try.func26, Try.ntmps26
    go_wp2_with fail
    refine (l16Ok_any A n c xs _ h hn).mono ?_
    rintro e w2 ⟨rfl, rfl⟩
    go_wp2_with fail
    go_ret2
    exact ⟨by simp [leastVal, leastCode, hok], Below.refl _ _⟩
  · have ok := frOk_iff.1 hok
    have hn60 : n ≤ 60 := by rw [← h.1]; exact ok.len
    go_enter Try.func26, Try.ntmps26
    go_wp2_with fail
    refine (l16Ok_any A n c xs _ h hn).mono ?_
    rintro e w2 ⟨rfl, rfl⟩
    go_wp2_with fail
    go_loop [4, 5] (fun s i => ∃ k : Nat, k ≤ n ∧ i = .int .i64 k ∧ s = .int .i64 (darkTo xs k)) (fun _ i => n - (intOf i).toNat)
    case atStart => exact ⟨0, by omega, rfl, rfl⟩
    case round =>
      obtain ⟨k, hk, rfl, rfl⟩ := hrel
      by_cases hlt : k < n
      · obtain ⟨b, off, x, rfl, hx, hmx, c0, c1⟩ := h.at2 hlt
        have HD := Lib.hid (darkTo_succ hx)
        go_wp2_with fail
        refine (l00Max_any _ _ _).mono ?_
        rintro e w2 ⟨rfl, rfl⟩
        go_wp2_with fail
        go_round
        case rel => exact ⟨k + 1, by omega, by go_num, by rw [HD.out]⟩
        case measure => simp [intOf]; omega
      · have : k = n := by omega
        subst this
        have hl := h.1
        by_cases t : 500 < darkTo xs k
        · go_wp2_with fail
          go_ret2
          have hc : leastCode xs = 3 := by rw [leastCode, if_pos hok, if_neg (by rw [hl]; omega)]
          exact ⟨ret2 (by rw [leastVal, hc]; rfl) hc.symm, Below.refl _ _⟩
        · go_wp2_with fail
          go_ret2
          have hc : leastCode xs = 0 := by rw [leastCode, if_pos hok, if_pos (by rw [hl]; omega)]
          exact ⟨ret2 (by rw [leastVal, hc, if_pos rfl, hl]) hc.symm, Below.refl _ _⟩

theorem implLeastPersist_any (A : Option Addr) (n c : Nat) (xs : List (Int × Int)) (w : World) (h : Sl w 2 e2 A n xs) (hn : n ≤ 1048577) :
    Calls Try.prog 27 #[.slice A n c] w fun e w' => e = .returned (.tuple #[.int .i64 (leastVal xs), .int .i64 (leastCode xs)]) ∧ Below w.heap.size w w' := by
  cases hok : frOk xs
  · go_enter Try.func27, Try.ntmps27
    go_wp2_with fail
    refine (implValidFrames_any A n c xs _ h hn).mono ?_
    rintro e w2 ⟨rfl, hb⟩
    go_wp2_with fail
    go_ret2
    exact ⟨by simp [leastVal, leastCode, hok], hb⟩
  · have ok := frOk_iff.1 hok
    have hn60 : n ≤ 60 := by rw [← h.1]; exact ok.len
    go_enter Try.func27, Try.ntmps27
    go_wp2_with fail
    refine (implValidFrames_any A n c xs _ h hn).mono ?_
    rintro e w2 ⟨rfl, hb⟩
    go_wp2_with fail
    go_loopw [4] (fun i wr => ∃ k : Nat, k ≤ 501 ∧ i = .int .i64 k ∧ Hid ((k : Int) ≤ darkTo xs xs.length) ∧ Below w.heap.size w wr) (fun i _ => 501 - (intOf i).toNat)
    case atStart => exact ⟨0, by omega, rfl, darkTo_nn xs _, hb⟩
    case round =>
      obtain ⟨k, hk, rfl, hd, hbr⟩ := hrel
      by_cases hlt : k ≤ 500
      · have hz := ok.gaps_zero (p := k) (by omega) (by omega) xs.length (Nat.le_refl _)
        cases t : (gaps xs k == 0)
        · have t1 : ¬ darkTo xs xs.length ≤ k := fun h1 => by
            have := hz.2 h1
            change gaps xs k = 0 at this
            simp [this] at t
          have HT := Lib.hid t1
          clear hz t1
          go_wp2_with fail
          refine (gapsSeen_any A n c xs k _ (h.below hbr) ok (by omega) (by omega)).mono ?_
          rintro e w3 ⟨rfl, hb3⟩
          go_wp2_with fail
          go_roundw
          case rel => exact ⟨k + 1, by omega, by go_num, by have := HT.out; have := hd.out; simp only [Hid]; omega, below_mid hbr hb3 hbr.size⟩
          case measure => simp [intOf]; omega
        · have t1 : darkTo xs xs.length ≤ k := hz.1 (by change gaps xs k = 0; simpa using t)
          have HT := Lib.hid t1
          clear hz t1
          go_wp2_with fail
          refine (gapsSeen_any A n c xs k _ (h.below hbr) ok (by omega) (by omega)).mono ?_
          rintro e w3 ⟨rfl, hb3⟩
          go_wp2_with fail
          go_ret2
          have he : darkTo xs xs.length = k := by have := HT.out; have := hd.out; omega
          have hc : leastCode xs = 0 := by rw [leastCode, if_pos hok, if_pos (by omega)]
          exact ⟨ret2 (by rw [leastVal, if_pos hc, he]) hc.symm, below_mid hbr hb3 hbr.size⟩
      · have : k = 501 := by omega
        have HK := Lib.hid this
        clear this
        go_wp2_with fail
        go_ret2
        have hc : leastCode xs = 3 := by rw [leastCode, if_pos hok, if_neg (by have := hd.out; have := HK.out; omega)]
        exact ⟨ret2 (by rw [leastVal, hc]; rfl) hc.symm, hbr⟩

/-! ### the frames that are seen -/
theorem l16Seen_any (A : Option Addr) (n c : Nat) (xs : List (Int × Int)) (p m : Int) (w : World) (h : Sl w 2 e2 A n xs) (ok : FrOk xs) (hp : 0 ≤ p) (hp2 : p ≤ 500) :
    Calls Try.prog 57 #[.slice A n c, .int .i64 p, .int .i64 m] w (RetOwn 2 1 e1 (seen xs p m) w) := by
  obtain ⟨i0, hi0, hz0, hz1, hz2⟩ := info_parts infoI64
  have hn60 : n ≤ 60 := by rw [← h.1]; exact ok.len
  go_enter Try.func57, Try.ntmps57
  go_wp2
  have hst : Own (w.alloc (.cells #[] 2)) w.heap.size 2 1 e1 (.slice (some ⟨w.heap.size, 0, none⟩) 0 0) (seenTo xs p m 0) := Own.lit w _ _ [] 0 (Nat.le_refl _) rfl (by simp [maxLen]) e1_len rfl
  go_loopw [7, 8, 9] (fun v s i wr => ∃ k : Nat, k ≤ n ∧ i = .int .i64 k ∧ s = .int .i64 (begK xs k) ∧ Own wr w.heap.size 2 1 e1 v (seenTo xs p m k) ∧ Below w.heap.size w wr) (fun _ _ i _ => n - (intOf i).toNat)
  case atStart => exact ⟨0, by omega, rfl, by simp [begK, sumI], hst, below_alloc _ _⟩
  case round =>
    obtain ⟨k, hk, rfl, rfl, ho, hb⟩ := hrel
    by_cases hlt : k < n
    · obtain ⟨b, off, x, rfl, hx, hmx, c0, c1⟩ := (h.below hb).at2 hlt
      have hb1 := ok.one x hmx
      have hb2 := ok.beg_bd k
      have HS := Lib.hid (begK_step hx)
      have HL := Lib.hid (seenTo_len xs p m k)
      have r1 : IntKind.i64.wrap (x.1 + x.2) = x.1 + x.2 := wr64 (by omega)
      have r2 : IntKind.i64.wrap (begK xs k + (x.1 + x.2)) = begK xs k + (x.1 + x.2) := wr64 (by omega)
      cases t : inB m (begK xs k) (begK xs k + x.1 + p - 1)
      · have HN := Lib.hid (seenTo_no (p := p) (m := m) hx (by have := inB_false.1 t; omega))
        go_wp2_with fail
        refine (l00In_any _ _ _ _).mono ?_
        rintro e w2 ⟨rfl, rfl⟩
        go_wp2_with fail
        go_quiet (fail)
        clear r1 r2
        go_wp2_with fail
        go_roundw
        case rel => exact ⟨k + 1, by omega, by go_num, by rw [HS.out], by rw [HN.out]; exact ho.drewN _, below_drewN hb _⟩
        case measure => simp [intOf]; omega
      · have HN := Lib.hid (seenTo_yes (p := p) (m := m) hx (inB_true.1 t).1 (by have := (inB_true.1 t).2; omega))
        go_wp2_with fail
        refine (l00In_any _ _ _ _).mono ?_
        rintro e w2 ⟨rfl, rfl⟩
        go_wp2_with (at_builtin; refine wpList_app1 rfl (.tmp 30) (.tmp 32) 45 2 rfl w.heap.size i0 _ 1 8 Try.underlying45 hi0 hz0 hz1 hz2 rfl (by decide) e1 e1_len e1_one _ (seenTo xs p m k) rfl (ho.alloc _) (k : Int) _ _ rfl (newcell _ _ _ _ (by simp)) (by have := HL.out; omega) (by have := HL.out; unfold maxLen; omega) (by have := hb.size; simp; omega) ?_; intro v' w2 ho2 hb2; have hb3 := (hb.alloc hb.size _).trans hb2; obtain ⟨c0', c1'⟩ := (h.below hb3).get2 hx)
        go_quiet (fail)
        clear r1 r2
        go_wp2_with fail
        go_roundw
        case rel => exact ⟨k + 1, by omega, by go_num, by rw [HS.out], by rw [HN.out]; exact ho2.drewN _, below_drewN hb3 _⟩
        case measure => simp [intOf]; omega
    · go_wp2_with fail
      go_ret
      have : k = n := by omega
      subst this
      exact RetOwn.mk (by rw [show k = xs.length from h.1.symm] at ho; exact ho) hb

theorem seenFrames_any (A : Option Addr) (n c : Nat) (xs : List (Int × Int)) (p m : Int) (w : World) (h : Sl w 2 e2 A n xs) (ok : FrOk xs) (hp : 0 ≤ p) (hp2 : p ≤ 500) :
    Calls Try.prog 58 #[.slice A n c, .int .i64 p, .int .i64 m] w (RetOwn 2 1 e1 (seen xs p m) w) := by
  obtain ⟨i0, hi0, hz0, hz1, hz2⟩ := info_parts infoI64
  have hn60 : n ≤ 60 := by rw [← h.1]; exact ok.len
  go_enter Try.func58, Try.ntmps58
  have hst : Own (w.alloc (.cells #[] 2)) w.heap.size 2 1 e1 (.slice (some ⟨w.heap.size, 0, none⟩) 0 0) (seenTo xs p m 0) := Own.lit w _ _ [] 0 (Nat.le_refl _) rfl (by simp [maxLen]) e1_len rfl
  go_wp2_with fail
  refine (begins_any A n c xs _ (h.alloc _) ok).mono ?_
  rintro e w5 ⟨A', n', c', rfl, ho5, hb5⟩
  have hb05 := below_step (below_alloc w _) hb5
  have hst5 := hst.below hb5
  have hl := h.1
  obtain rfl : n' = n + 1 := by rw [← (ho5.sl e1_len).1, begs_len, hl]
  have HL := Lib.hid hl; clear hl
  have hs5 := ho5.sl e1_len
  have ha5 := Apart.of_own hst ho5 (Nat.le_refl _)
  clear ho5
  go_wp2_with fail
  go_loopw [7, 16] (fun v i wr => ∃ k : Nat, k ≤ n ∧ i = .int .i64 k ∧ Own wr w.heap.size 2 1 e1 v (seenTo xs p m k) ∧ Below w.heap.size w wr ∧ Sl wr 1 e1 A' (n + 1) (begs xs) ∧ Apart v A') (fun _ i _ => n - (intOf i).toNat)
  case atStart => exact ⟨0, by omega, rfl, hst5, hb05, hs5, ha5⟩
  case round =>
    obtain ⟨k, hk, rfl, ho, hb, hs, ha⟩ := hrel
    by_cases hlt : k < n
    · obtain ⟨b, off, x, rfl, hx, hmx, c0, c1⟩ := (h.below hb).at2 hlt
      obtain ⟨b', off', rfl, hc⟩ := hs.all1 (by omega)
      have d0 := hc k _ (begs_get (by rw [HL.out]; omega))
      have d0' := cell_al d0
      clear hc
      have hb1 := ok.one x hmx
      have hb2 := ok.beg_bd k
      have HLE := Lib.hid (seenTo_len xs p m k)
      have r1 : IntKind.i64.wrap (begK xs k + x.1) = begK xs k + x.1 := wr64 (by omega)
      have r2 : IntKind.i64.wrap (begK xs k + x.1 + p) = begK xs k + x.1 + p := wr64 (by omega)
      by_cases t1 : begK xs k ≤ m
      · by_cases t2 : m < begK xs k + x.1 + p
        · have HN := Lib.hid (seenTo_yes (p := p) (m := m) hx t1 t2)
          go_wp2_with fail
          go_quiet (fail)
          clear r1 r2
          have hbd : Below w.heap.size w ((wr.alloc (.cells #[.int .i64 x.1, .int .i64 x.2] 52)).drewN nq) := below_drewN (hb.alloc hb.size _) _
          have hod : Own ((wr.alloc (.cells #[.int .i64 x.1, .int .i64 x.2] 52)).drewN nq) w.heap.size 2 1 e1 u7 (seenTo xs p m k) := (ho.alloc _).drewN _
          have hsd : Sl ((wr.alloc (.cells #[.int .i64 x.1, .int .i64 x.2] 52)).drewN nq) 1 e1 (some ⟨b', off', none⟩) (n + 1) (begs xs) := (hs.alloc _).drewN _
          generalize (wr.alloc (.cells #[.int .i64 x.1, .int .i64 x.2] 52)).drewN nq = w6 at hbd hod hsd ⊢
          go_wp2_with (at_builtin; refine wpList_app1x rfl (.tmp 40) (.tmp 42) 45 2 rfl w.heap.size i0 _ 1 8 Try.underlying45 hi0 hz0 hz1 hz2 rfl (by decide) e1 e1_len e1_one _ (seenTo xs p m k) rfl (hod.alloc _) (k : Int) _ _ rfl (newcell _ _ _ _ (by simp)) (by have := HLE.out; omega) (by have := HLE.out; unfold maxLen; omega) (by have := hbd.size; simp; omega) ?_; intro v' w2 ho2 hb2 hg2 hat2)
          go_roundw
          case rel => exact ⟨k + 1, by omega, by go_num, by rw [HN.out]; exact ho2, (hbd.alloc hbd.size _).trans hb2, (hsd.alloc _).grownA hg2 ha, ha.step (hsd.alloc _) (by omega) hat2⟩
          case measure => simp [intOf]; omega
        · have HN := Lib.hid (seenTo_no (p := p) (m := m) hx (by omega))
          go_wp2_with fail
          go_quiet (fail)
          clear r1 r2
          go_wp2_with fail
          go_roundw
          case rel => exact ⟨k + 1, by omega, by go_num, by rw [HN.out]; exact (ho.alloc _).drewN _, below_drewN (hb.alloc hb.size _) _, (hs.alloc _).drewN _, ha⟩
          case measure => simp [intOf]; omega
      · have HN := Lib.hid (seenTo_no (p := p) (m := m) hx (by omega))
        have hd1 : decide (begK xs k ≤ m) = false := by simp; omega
        go_wp2_with fail
        go_quiet (fail)
        clear r1 r2
        go_wp2_with fail
        go_roundw
        case rel => exact ⟨k + 1, by omega, by go_num, by rw [HN.out]; exact (ho.alloc _).drewN _, below_drewN (hb.alloc hb.size _) _, (hs.alloc _).drewN _, ha⟩
        case measure => simp [intOf]; omega
    · go_wp2_with fail
      go_ret
      have : k = n := by omega
      subst this
      exact RetOwn.mk (by rw [show k = xs.length from HL.out.symm] at ho; exact ho) hb
end Go.Proofs.Ytkjdinhbfoghnaa
