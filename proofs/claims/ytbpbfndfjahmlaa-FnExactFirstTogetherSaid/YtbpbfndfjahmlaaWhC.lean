/-
  Contracts of the functions on wheels: when all have wanted places (the reference).
-/
import Derived.Test.YtbpbfndfjahmlaaWhB
namespace Go.Proofs.Ytbpbfndfjahmlaa
open Go.RowKit

set_option maxRecDepth 100000 in
set_option maxHeartbeats 1600000 in
theorem specFirstTogether_any (r : Int) (A : Option Addr) (n c : Nat) (xs : List (Int × Bool)) (B : Option Addr) (m d : Nat) (ws : List Int) (w : World) (_hr : In64 r) (h : Sl w 2 eWheel A n xs) (hn : n ≤ 1048577) (hs : Sl w 1 e1 B m ws) (hm : m ≤ 1048577) :
    Calls Try.prog 5 #[.int .i64 r, .slice A n c, .slice B m d] w fun e w' => e = .returned (.tuple #[.int .i64 (ftVal r xs ws), .int .i64 (ftCode r xs ws)]) ∧ Below w.heap.size w w' := by
  have hl := h.1
  have hl2 := hs.1
  cases hok : whOk r xs
  · have H1 : Hid (ftCode r xs ws = 1) := by rw [Hid, ftCode, hok]; rfl
    have H2 : Hid (ftVal r xs ws = 0) := ftVal_no (by rw [H1.out]; decide)
    go_enter Try.func5, Try.ntmps5
    go_wp2_with fail
    refine (l14Ok_any r A n c xs _ h hn).mono ?_
    rintro e w2 ⟨rfl, rfl⟩
    have hb2 : Below w.heap.size w w := Below.refl _ _
    rw [hok]
    go_wp2_with fail
    go_ret2
    exact ⟨ret2 H2.out.symm H1.out.symm, hb2⟩
  · have ok := whOk_iff.1 hok
    have hn8 : n ≤ 8 := by rw [← hl]; exact ok.len
    by_cases hmn : m = n
    · subst hmn
      have HF : Hid (ftCode r xs ws = if wantOk xs ws then (if 1000000000 < rtK xs m then 5 else (if (ftI xs ws).isSome then 0 else 3)) else 2) := by rw [Hid, ftCode, hok, if_pos rfl, if_pos (by omega), hl]
      go_enter Try.func5, Try.ntmps5
      go_wp2_with fail
      refine (l14Ok_any r A m c xs _ h hn).mono ?_
      rintro e w2 ⟨rfl, rfl⟩
      have hb2 : Below w.heap.size w w := Below.refl _ _
      rw [hok]
      go_wp2_with fail
      go_loopw [8] (fun i wr => ∃ k : Nat, k ≤ m ∧ i = .int .i64 k ∧ Hid (WantK xs ws k) ∧ Below w.heap.size w wr) (fun i _ => m - (intOf i).toNat)
      case atStart => exact ⟨0, by omega, rfl, (fun i x wd hi => by omega : WantK xs ws 0), hb2⟩
      case round =>
        obtain ⟨k, hk, rfl, he, hb⟩ := hrel
        by_cases hlt : k < m
        · obtain ⟨b, off, x, rfl, hx, hmx, c0, c1⟩ := (h.below hb).atWheel hlt
          obtain ⟨bw, offw, wd, rfl, hw, _, cw⟩ := (hs.below hb).at1 hlt
          have hx1 := ok.one x hmx
          have HX := Lib.hid hx
          have HWD := Lib.hid hw
          have g1 : (0 : Int) ≤ (k : Int) := by omega
          have g2 : (k : Int) < (m : Int) := by omega
          have r1 : IntKind.i64.wrap (x.1 - 1) = x.1 - 1 := wr64 (by omega)
          clear hx hw
          cases q1 : inB wd 0 (x.1 - 1)
          · have H1 : Hid (ftCode r xs ws = 2) := by rw [Hid, HF.out, wantOk_no HX.out HWD.out q1]; rfl
            have H2 : Hid (ftVal r xs ws = 0) := ftVal_no (by rw [H1.out]; decide)
            go_wp2_with fail
            go_quiet ((go_at_call 12; exact quiet_left (l00In_any _ _ _ _)))
            go_wp2_with fail
            go_ret2
            exact ⟨ret2 H2.out.symm H1.out.symm, below_drewN hb _⟩
          · go_wp2_with fail
            go_quiet ((go_at_call 12; exact quiet_left (l00In_any _ _ _ _)))
            go_wp2_with fail
            go_roundw
            case rel => exact ⟨k + 1, by omega, by go_num, wantK_step he.out HX.out HWD.out q1, below_drewN hb _⟩
            case measure => simp [intOf]; omega
        · have : k = m := by omega
          subst this
          have HALL : Hid (wantOk xs ws = true) := wantK_all (by rw [hl]; exact he.out)
          by_cases hq : 1000000000 < rtK xs k
          · have H1 : Hid (ftCode r xs ws = 5) := by rw [Hid, HF.out, HALL.out, if_pos rfl, if_pos hq]
            have H2 : Hid (ftVal r xs ws = 0) := ftVal_no (by rw [H1.out]; decide)
            have HR : Hid (rtS xs = 0) := by rw [Hid, rtS, hl, if_pos hq]
            go_wp2_with fail
            refine (l14Return_any A k c xs _ (h.below hb) hn8 ok.one).mono ?_
            rintro e w5 ⟨rfl, hb5⟩
            rw [HR.out]
            have hb6 := below_mid hb hb5 hb.size
            go_wp2_with fail
            go_ret2
            exact ⟨ret2 H2.out.symm H1.out.symm, hb6⟩
          · have HC : Hid (ftCode r xs ws = if (ftI xs ws).isSome then 0 else 3) := by rw [Hid, HF.out, HALL.out, if_pos rfl, if_neg hq]
            have HR : Hid (rtS xs = rtK xs k) := by rw [Hid, rtS, hl, if_neg hq]
            have hz0 : (rtK xs k == 0) = false := by rw [beq_eq_false_iff_ne]; have := (rtK_pos ok.one k).1; omega
            go_wp2_with fail
            refine (l14Return_any A k c xs _ (h.below hb) hn8 ok.one).mono ?_
            rintro e w5 ⟨rfl, hb5⟩
            rw [HR.out]
            have hb6 := below_mid hb hb5 hb.size
            go_wp2_with fail
            go_loopw [9, 10, 11] (fun v st i wr => ∃ q : Nat, ∃ t : Int, q ≤ k ∧ i = .int .i64 q ∧ v = .int .i64 t ∧ st = .int .i64 (rtK xs q) ∧ Hid (ftG xs ws q = some t) ∧ 0 ≤ t ∧ t ≤ (q : Int) * 300000000000 ∧ Below w.heap.size w wr) (fun _ _ i _ => k - (intOf i).toNat)
            case atStart => exact ⟨0, 0, by omega, rfl, rfl, rfl, rfl, by omega, by omega, hb6⟩
            case round =>
              obtain ⟨q, t, hqk, rfl, rfl, rfl, hg, ht0, ht1, hb⟩ := hrel
              by_cases hlt : q < k
              · obtain ⟨b, off, x, rfl, hx, hmx, _, _⟩ := (h.below hb).atWheel hlt
                obtain ⟨bw, offw, wd, rfl, hw, _, _⟩ := (hs.below hb).at1 hlt
                have hx1 := ok.one x hmx
                have HS := Lib.hid (rtK_step hx)
                have hp := (rtK_pos ok.one q).1
                have hle1 := rtK_le ok.one (show q ≤ k by omega)
                have hle2 := rtK_le ok.one (show q + 1 ≤ k by omega)
                have HG := Lib.hid (ftG_step hg.out hx hw)
                obtain ⟨T, hT⟩ : ∃ T : Nat, x.1 = (T : Int) := ⟨x.1.toNat, by omega⟩
                have hTT : x.1.toNat = T := by omega
                rw [hTT] at HG
                have hT200 : T ≤ 200 := by omega
                have HT := Lib.hid hT
                clear hT hTT
                generalize hR : rtK xs q = st at HS hp hle1 HG ⊢
                have g1 : (0 : Int) ≤ (q : Int) := by omega
                have g2 : (q : Int) < (k : Int) := by omega
                have HX := Lib.hid hx
                have HWD := Lib.hid hw
                clear hx hw
                go_wp2_with fail
                go_loopw [9, 12, 13] (fun v fd i wr => ∃ j : Nat, ∃ cur : Int, j ≤ T ∧ i = .int .i64 j ∧ v = .int .i64 cur ∧ 0 ≤ cur ∧ cur ≤ ((q + 1 : Nat) : Int) * 300000000000 ∧ cur ≤ t + j * st ∧ ((fd = .bool false ∧ Hid (shF x wd st T t = shF x wd st (T - j) cur)) ∨ (fd = .bool true ∧ Hid (shF x wd st T t = some cur))) ∧ Below w.heap.size w wr) (fun _ _ i _ => T + 1 - (intOf i).toNat)
                case atStart => exact ⟨0, t, by omega, rfl, rfl, ht0, by omega, by simp, .inl ⟨rfl, by simp [Hid]⟩, hb⟩
                case round =>
                  obtain ⟨j, cur, hj, rfl, rfl, hc0, hc2, hc3, hfd, hb⟩ := hrel
                  obtain ⟨c0, c1⟩ := (h.below hb).getWheel HX.out
                  have cw := (hs.below hb).get1 HWD.out
                  have hjs1 : (j : Int) * st ≤ 199 * 1000000000 ∨ j = 200 := by
                    by_cases h200 : j = 200
                    · exact .inr h200
                    · exact .inl (Int.mul_le_mul (by omega) (by omega) (by omega) (by omega))
                  have hj1 : ((j + 1 : Nat) : Int) * st = (j : Int) * st + st := by rw [Int.natCast_succ, Int.add_mul, Int.one_mul]
                  rcases hfd with ⟨rfl, hs1⟩ | ⟨rfl, hs1⟩
                  · by_cases hjT : j < T
                    · have hjx : (j : Int) < x.1 := by rw [HT.out]; omega
                      have HN : Hid (T - j = (T - (j + 1)) + 1) := by rw [Hid]; omega
                      have hc4 : cur + st ≤ ((q + 1 : Nat) : Int) * 300000000000 := by omega
                      have hc5 : cur + st ≤ t + ((j + 1 : Nat) : Int) * st := by rw [hj1]; omega
                      have hc6 : cur ≤ t + ((j + 1 : Nat) : Int) * st := by rw [hj1]; omega
                      have hc7 : cur ≤ 2700000000000 := by omega
                      have hjT1 : j + 1 ≤ T := by omega
                      clear hjs1 hj1 hc3
                      by_cases hq2 : whP x cur = wd
                      · have hne : (whP x cur == wd) = true := by simp [hq2]
                        have HH : Hid (shF x wd st T t = some cur) := by rw [Hid, hs1.out, HN.out, shF_hit hq2]
                        clear hq2
                        go_wp2_with fail
                        go_quiet ((go_at_call 14; exact quiet_left (l14Place_any x b (off + q * 2) cur _ ⟨hc0, by omega⟩ hx1 c0 c1)))
                        go_wp2_with fail
                        go_roundw
                        case rel => exact ⟨j + 1, cur, hjT1, by go_num, rfl, hc0, hc2, hc6, .inr ⟨rfl, HH⟩, below_drewN hb _⟩
                        case measure => simp [intOf]; omega
                      · have hne : (whP x cur == wd) = false := by rw [beq_eq_false_iff_ne]; exact hq2
                        have HM : Hid (shF x wd st T t = shF x wd st (T - (j + 1)) (cur + st)) := by rw [Hid, hs1.out, HN.out, shF_miss hq2]
                        clear hq2
                        go_wp2_with fail
                        go_quiet ((go_at_call 14; exact quiet_left (l14Place_any x b (off + q * 2) cur _ ⟨hc0, by omega⟩ hx1 c0 c1)))
                        go_wp2_with fail
                        go_roundw
                        case rel => exact ⟨j + 1, cur + st, hjT1, by go_num, rfl, by omega, hc4, hc5, .inl ⟨rfl, HM⟩, below_drewN hb _⟩
                        case measure => simp [intOf]; omega
                    · have hje : T - j = 0 := by omega
                      have HNO : Hid (ftG xs ws (q + 1) = none) := by rw [Hid, HG.out, hs1.out, hje]; rfl
                      have HI : Hid (ftI xs ws = none) := ftG_none HNO.out (by omega)
                      have H1 : Hid (ftCode r xs ws = 3) := by rw [Hid, HC.out, HI.out]; rfl
                      have H2 : Hid (ftVal r xs ws = 0) := ftVal_no (by rw [H1.out]; decide)
                      have hjx : x.1 ≤ (j : Int) := by rw [HT.out]; omega
                      clear hjs1 hj1 hc3
                      go_wp2_with fail
                      go_ret2
                      exact ⟨ret2 H2.out.symm H1.out.symm, hb⟩
                  · have HH : Hid (ftG xs ws (q + 1) = some cur) := by rw [Hid, HG.out, hs1.out]
                    clear hjs1 hj1 hc3
                    by_cases hjx : (j : Int) < x.1
                    · have q1 := rtF_quo hp (show 1 ≤ x.1 by omega)
                      have q2 := rtF_bd hp (show 1 ≤ x.1 by omega)
                      have HF2 : Hid (rtF st x.1 = st / fracG st x.1 * x.1) := rfl
                      have q3 : 1 ≤ st / fracG st x.1 * x.1 ∧ st / fracG st x.1 * x.1 ≤ 1000000000 := ⟨by have := q2.1; rw [HF2.out] at this; omega, by have := hle2; rw [HS.out, HF2.out] at this; omega⟩
                      have hz : (fracG st x.1 == 0) = false := by rw [beq_eq_false_iff_ne]; omega
                      have r1 : IntKind.i64.wrap (Int.tdiv st (fracG st x.1)) = st / fracG st x.1 := tdivW (by omega) (by omega) (by omega)
                      have r2 : IntKind.i64.wrap (st / fracG st x.1 * x.1) = st / fracG st x.1 * x.1 := wr64 (by omega)
                      clear q2
                      go_wp2_with fail
                      go_quiet ((go_at_call 15; exact quiet_left (l00Gcd_any _ _ _ (by omega) (by omega) (by omega) (by omega))))
                      clear r1 r2
                      go_wp2_with fail
                      go_roundw
                      case rel => exact ⟨q + 1, cur, by omega, by go_num, rfl, by rw [HS.out, HF2.out], HH, hc0, hc2, below_drewN hb _⟩
                      case measure => simp [intOf]; omega
                    · have q1 := rtF_quo hp (show 1 ≤ x.1 by omega)
                      have q2 := rtF_bd hp (show 1 ≤ x.1 by omega)
                      have HF2 : Hid (rtF st x.1 = st / fracG st x.1 * x.1) := rfl
                      have q3 : 1 ≤ st / fracG st x.1 * x.1 ∧ st / fracG st x.1 * x.1 ≤ 1000000000 := ⟨by have := q2.1; rw [HF2.out] at this; omega, by have := hle2; rw [HS.out, HF2.out] at this; omega⟩
                      have hz : (fracG st x.1 == 0) = false := by rw [beq_eq_false_iff_ne]; omega
                      have r1 : IntKind.i64.wrap (Int.tdiv st (fracG st x.1)) = st / fracG st x.1 := tdivW (by omega) (by omega) (by omega)
                      have r2 : IntKind.i64.wrap (st / fracG st x.1 * x.1) = st / fracG st x.1 * x.1 := wr64 (by omega)
                      clear q2
                      go_wp2_with fail
                      go_quiet ((go_at_call 15; exact quiet_left (l00Gcd_any _ _ _ (by omega) (by omega) (by omega) (by omega))))
                      clear r1 r2
                      go_wp2_with fail
                      go_roundw
                      case rel => exact ⟨q + 1, cur, by omega, by go_num, rfl, by rw [HS.out, HF2.out], HH, hc0, hc2, below_drewN hb _⟩
                      case measure => simp [intOf]; omega
              · have : q = k := by omega
                subst this
                have HI : Hid (ftI xs ws = some t) := by rw [Hid, ftI, hl]; exact hg.out
                have H1 : Hid (ftCode r xs ws = 0) := by rw [Hid, HC.out, HI.out]; rfl
                have H2 : Hid (ftVal r xs ws = t) := by rw [Hid, ftVal, if_pos H1.out, HI.out]; rfl
                go_wp2_with fail
                go_ret2
                exact ⟨ret2 H2.out.symm H1.out.symm, hb⟩
    · have H1 : Hid (ftCode r xs ws = 2) := by rw [Hid, ftCode, hok, if_pos rfl, if_neg (by rw [hl, hl2]; exact hmn)]
      have H2 : Hid (ftVal r xs ws = 0) := ftVal_no (by rw [H1.out]; decide)
      have hne : ((m : Int) != (n : Int)) = true := by rw [bne_iff_ne]; omega
      go_enter Try.func5, Try.ntmps5
      go_wp2_with fail
      refine (l14Ok_any r A n c xs _ h hn).mono ?_
      rintro e w2 ⟨rfl, rfl⟩
      have hb2 : Below w.heap.size w w := Below.refl _ _
      rw [hok]
      go_wp2_with fail
      go_ret2
      exact ⟨ret2 H2.out.symm H1.out.symm, hb2⟩

end Go.Proofs.Ytbpbfndfjahmlaa
