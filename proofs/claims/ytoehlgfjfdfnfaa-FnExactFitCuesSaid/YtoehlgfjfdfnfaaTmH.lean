/-
  Contracts of the functions on pieces: the beats nearest to seconds (the reference).
-/
import Derived.Test.YtoehlgfjfdfnfaaTmG
namespace Go.Proofs.Ytoehlgfjfdfnfaa
open Go.RowKit

set_option maxHeartbeats 400000 in
theorem l19Units_q (A : Option Addr) (n c : Nat) (xs : List (Int × Int × Int)) (b U : Int) (w : World) (h : Sl w 3 e3 A n xs) (ok : PtB xs) (hb0 : 0 ≤ b ∧ b ≤ 28800) (hU : 1 ≤ U ∧ U ≤ 100000000) :
    Calls Try.prog 28 #[.slice A n c, .int .i64 b, .int .i64 U] w fun e w' => e = .returned (.int .i64 (unI U xs b)) ∧ ∃ m, w' = w.drewN m := by
  have hl := ok.1
  have hl2 := h.1
  go_enter Try.func28, Try.ntmps28
  go_wp2
  go_loopw [1, 7, 8] (fun v q i wr => ∃ k j : Nat, ∃ be su : Int, k ≤ n ∧ i = .int .i64 k ∧ v = .int .i64 be ∧ q = .int .i64 su ∧ 0 ≤ be ∧ be ≤ b ∧ 0 ≤ su ∧ su ≤ (b - be) * 300000000 ∧ Hid (unI U xs b = su + unI U (xs.drop k) be) ∧ Hid (wr = w.drewN j)) (fun _ _ i _ => n - (intOf i).toNat)
  case atStart => exact ⟨0, 0, b, 0, by omega, rfl, rfl, rfl, by omega, by omega, by omega, by omega, by simp [Hid], rfl⟩
  case round =>
    obtain ⟨k, j, be, su, hk, rfl, rfl, rfl, hbe0, hbe1, hsu0, hsu1, he, hw⟩ := hrel
    have hs : Sl wr 3 e3 A n xs := by rw [hw.out]; exact h.drewN _
    by_cases hlt : k < n
    · by_cases hpos : 0 < be
      · obtain ⟨bb, off, x, rfl, hx, hm, c0, c1, c2⟩ := hs.at3 hlt
        have hx1 := ok.2 x hm
        have q1 := bF_bd hx1
        have q2 := stU_bd hU (show 20 ≤ x.2.2 ∧ x.2.2 ≤ 300 by omega)
        have HS := Lib.hid (unI_go (U := U) hx hpos)
        have HX := Lib.hid hx
        clear hx
        have g1 : (0 : Int) ≤ (k : Int) := by omega
        have g2 : (k : Int) < (n : Int) := by omega
        have r1 : IntKind.i64.wrap (x.1 * x.2.1) = x.1 * x.2.1 := wr64 (by omega)
        go_wp2_with fail
        go_quiet ((go_at_call 46; exact quiet_left (l00Min_any _ _ _)))
        clear r1
        have hmn : 0 ≤ min be (x.1 * x.2.1) ∧ min be (x.1 * x.2.1) ≤ be := by omega
        generalize min be (x.1 * x.2.1) = m at HS hmn ⊢
        have HW5 : Hid (wr.drewN nq = w.drewN (j + nq)) := by rw [Hid, hw.out, World.drewN_drewN]
        have hs5 := hs.drewN nq
        generalize wr.drewN nq = w5 at HW5 hs5 ⊢
        obtain ⟨d0, d1, d2⟩ := hs5.get3 HX.out
        clear c0 c1 c2
        have HQ : Hid (stU U x = 60 * U / x.2.2) := rfl
        have q3 : 0 ≤ 60 * U / x.2.2 ∧ 60 * U / x.2.2 ≤ 300000000 := q2
        have p0 : 0 ≤ m * (60 * U / x.2.2) := Int.mul_nonneg (by omega) (by omega)
        have p1 : m * (60 * U / x.2.2) ≤ m * 300000000 := Int.mul_le_mul_of_nonneg_left q3.2 (by omega)
        go_wp2_with fail
        go_roundw
        case rel => exact ⟨k + 1, j + nq, be - m, su + m * (60 * U / x.2.2), by omega, by go_num, rfl, rfl, by omega, by omega, by omega, by omega, by rw [Hid, he.out, HS.out, HQ.out]; omega, HW5⟩
        case measure => simp [intOf]; omega
      · have HS : Hid (unI U (xs.drop k) be = 0) := by have : be = 0 := by omega
                                                       subst this; exact unI_zero _ _
        go_wp2_with fail
        go_ret
        exact ⟨ret_int (by rw [he.out, HS.out, Int.add_zero]), j, hw.out⟩
    · have : k = n := by omega
      subst this
      have HL := Lib.hid h.1
      go_wp2_with fail
      go_ret
      exact ⟨ret_int (by rw [he.out, ← HL.out, unI_end, Int.add_zero]), j, hw.out⟩

set_option maxRecDepth 20000 in
set_option maxHeartbeats 1600000 in
theorem specFitCues_any (A : Option Addr) (n c : Nat) (xs : List (Int × Int × Int)) (B : Option Addr) (m d : Nat) (ss : List Int) (w : World) (h : Sl w 3 e3 A n xs) (hn : n ≤ 1048577) (hs : Sl w 1 e1 B m ss) (hm : m ≤ 1048577) :
    Calls Try.prog 17 #[.slice A n c, .slice B m d] w (RetOwnC 2 1 e1 (fcVal xs ss) (fcCode xs ss) w) := by
  obtain ⟨i0, hi0, hz0, hz1, hz2⟩ := info_parts infoI64
  have hl2 := h.1
  have hlm := hs.1
  cases hok : ptOk xs
  · have H1 : Hid (fcCode xs ss = 1) := by rw [Hid, fcCode, tiCode, hok]; rfl
    have H2 : Hid (fcVal xs ss = []) := fcVal_no (by rw [H1.out]; decide)
    go_enter Try.func17, Try.ntmps17
    go_wp2_with fail
    refine (l19Ok_any A n c xs _ h hn).mono ?_
    rintro e w2 ⟨rfl, rfl⟩
    go_wp2_with fail
    go_ret2
    rw [H1.out, H2.out]
    exact RetOwnC.none_ (Below.refl _ _)
  · have ok := ptOk_iff.1 hok
    have hbt := ok.b.bt_bd
    have hbt1 := ok.bt1
    go_enter Try.func17, Try.ntmps17
    go_wp2_with fail
    refine (l19Ok_any A n c xs _ h hn).mono ?_
    rintro e w2 ⟨rfl, rfl⟩
    go_wp2_with fail
    go_loop [6] (fun i => ∃ k : Nat, k ≤ m ∧ i = .int .i64 k ∧ Hid ((ss.take k).all (fun s => inB s 0 100000) = true)) (fun i => m - (intOf i).toNat)
    case atStart => exact ⟨0, by omega, rfl, by simp [Hid]⟩
    case round =>
      obtain ⟨k, hk, rfl, he⟩ := hrel
      by_cases hlt : k < m
      · obtain ⟨bb, off, x, rfl, hx, hmx, c0⟩ := hs.at1 hlt
        have HX := Lib.hid hx
        clear hx
        go_wp2_with (go_at_call 25; refine (l00In_any _ _ _ _).mono ?_; rintro e w' ⟨rfl, rfl⟩)
        · have q1 : inB x 0 100000 = false := by simpa using (by assumption : (!inB x 0 100000) = true)
          have H1 : Hid (fcCode xs ss = 2) := by rw [Hid, fcCode, fcIn_miss HX.out q1, tiCode, hok]; rfl
          have H2 : Hid (fcVal xs ss = []) := fcVal_no (by rw [H1.out]; decide)
          go_ret2
          rw [H1.out, H2.out]
          exact RetOwnC.none_ (Below.refl _ _)
        · have q1 : inB x 0 100000 = true := by simpa using (by assumption : (!inB x 0 100000) = false)
          go_round
          case rel => exact ⟨k + 1, by omega, by go_num, by rw [Hid, List.take_add_one, HX.out, List.all_append, he.out]; simp [q1]⟩
          case measure => simp [intOf]; omega
      · have : k = m := by omega
        subst this
        have HALL : Hid (ss.all (fun s => inB s 0 100000) = true) := by have := he.out; rwa [List.take_of_length_le (by omega)] at this
        by_cases h20 : 20 < k
        · have H1 : Hid (fcCode xs ss = 2) := by rw [Hid, fcCode, fcIn_long (by omega), tiCode, hok]; rfl
          have H2 : Hid (fcVal xs ss = []) := fcVal_no (by rw [H1.out]; decide)
          go_wp2_with fail
          go_ret2
          rw [H1.out, H2.out]
          exact RetOwnC.none_ (Below.refl _ _)
        · have hin0 : fcIn ss = true := by rw [fcIn, HALL.out, hlm]; simp; omega
          have hin := (fcIn_true hin0).2
          by_cases hp : partsI xs = 0
          · have H1 : Hid (fcCode xs ss = 5) := by rw [Hid, fcCode, hin0, tiCode, hok]; simp [hp]
            have H2 : Hid (fcVal xs ss = []) := fcVal_no (by rw [H1.out]; decide)
            have HP := Lib.hid hp
            clear hp
            go_wp2_with fail
            refine (l19Parts_any A n c xs _ h ok.b).mono ?_
            rintro e w4 ⟨rfl, hb4⟩
            rw [HP.out]
            go_wp2_with fail
            go_ret2
            rw [H1.out, H2.out]
            exact RetOwnC.none_ hb4
          · have H1 : Hid (fcCode xs ss = 0) := by rw [Hid, fcCode, hin0, tiCode, hok]; simp [hp]
            have H2 : Hid (fcVal xs ss = ss.map (fcOne xs)) := by rw [Hid, fcVal, if_pos H1.out]
            have hpb := parts_bd ok.b hp
            have HU := Lib.hid (unOk_of ok.b hp)
            have hU : 1 ≤ partsI xs ∧ partsI xs ≤ 100000000 := ⟨hpb.1, hpb.2.1⟩
            have hp2 : (partsI xs == 0) = false := by simp [hp]
            clear hp hpb hin0
            go_wp2_with fail
            refine (l19Parts_any A n c xs _ h ok.b).mono ?_
            rintro e w4 ⟨rfl, hb4⟩
            go_wp2_with fail
            refine (l19Beats_any A n c xs _ (h.below hb4) ok.b).mono ?_
            rintro e w5 ⟨rfl, hb5⟩
            have hWb := below_step hb4 hb5
            have hst : Own (w5.alloc (.cells #[] 2)) w5.heap.size 2 1 e1 (.slice (some ⟨w5.heap.size, 0, none⟩) 0 0) (fcK xs ss 0) := by rw [fcK_zero]; exact Own.lit w5 _ _ [] 0 (Nat.le_refl _) rfl (by simp [maxLen]) e1_len rfl
            go_wp2_with fail
            have HM : Hid (fcK xs ss k = fcVal xs ss) := by rw [Hid, H2.out, fcK, List.take_of_length_le (by omega)]
            go_loopw [9, 10] (fun v i wr => ∃ q : Nat, q ≤ k ∧ i = .int .i64 q ∧ Own wr w5.heap.size 2 1 e1 v (fcK xs ss q) ∧ Below w5.heap.size w5 wr) (fun _ i _ => k - (intOf i).toNat)
            case atStart => exact ⟨0, by omega, rfl, hst, below_alloc _ _⟩
            case round =>
              obtain ⟨q, hq, rfl, ho, hb⟩ := hrel
              by_cases hlt : q < k
              · obtain ⟨bb, off, x, rfl, hx, hmx, c00⟩ := (hs.below hWb).at1 hlt
                have hx1 := hin x hmx
                have hS := pr_bd hx1 hU
                have r2 : IntKind.i64.wrap (x * partsI xs) = x * partsI xs := wr64 (by omega)
                have HX := Lib.hid hx
                have HB := Lib.hid (baI_at (U := partsI xs) (xs := xs) (S := x * partsI xs) (by omega) hS.1)
                have g1 : (0 : Int) ≤ (q : Int) := by omega
                have g2 : (q : Int) < (k : Int) := by omega
                clear hx
                go_wp2_with fail
                go_loopw [11, 12] (fun lo hi wr => ∃ a b : Int, lo = .int .i64 a ∧ hi = .int .i64 b ∧ 0 ≤ a ∧ a < b ∧ b ≤ btI xs ∧ unI (partsI xs) xs a ≤ x * partsI xs ∧ (b < btI xs → x * partsI xs < unI (partsI xs) xs b) ∧ Own wr w5.heap.size 2 1 e1 u9 (fcK xs ss q) ∧ Below w5.heap.size w5 wr) (fun lo hi _ => (intOf hi - intOf lo).toNat)
                case atStart => exact ⟨0, btI xs, rfl, rfl, by omega, by omega, by omega, by rw [unI_zero]; exact hS.1, fun h => absurd h (by omega), ho, hb⟩
                case round =>
                  obtain ⟨a, b, rfl, rfl, ha, hab, hbl, hlo, hhi, ho, hb⟩ := hrel
                  have c0 : wr.cell? ⟨bb, off + q, none⟩ = some (.int .i64 x) := (hb.cell (World.block_lt_of_cell? _ _ c00)).trans c00
                  have hL := (h.below hWb).below hb
                  by_cases h1 : 1 < b - a
                  · have r1 : IntKind.i64.wrap (Int.tdiv (a + b) 2) = (a + b) / 2 := tdiv64' (by omega) (by omega) (by omega)
                    have hm1 : a < (a + b) / 2 := by omega
                    have hm2 : (a + b) / 2 < b := by omega
                    have hE2 := unI_le (U := partsI xs) (b := (a + b) / 2) ok.b hU (by omega)
                    by_cases hle : unI (partsI xs) xs ((a + b) / 2) ≤ x * partsI xs
                    · go_wp2_with fail
                      go_quiet ((go_at_call 28; exact Calls.quiet_of (l19Units_q A n c xs ((a + b) / 2) (partsI xs) _ (hL.drewN _) ok.b (by omega) hU)))
                      have hq9 : Below wr.heap.size wr (wr.drewN nq) ∧ (wr.drewN nq).cell? ⟨bb, off + q, none⟩ = some (.int .i64 x) := ⟨below_drewN (Below.refl _ _) _, c0⟩
                      generalize wr.drewN nq = w3 at hq9 ⊢
                      go_wp2_with fail
                      go_roundw
                      case rel => exact ⟨(a + b) / 2, b, rfl, rfl, by omega, hm2, hbl, hle, hhi, ho.below hq9.1, below_mid hb hq9.1 hb.size⟩
                      case measure => simp [intOf]; omega
                    · go_wp2_with fail
                      go_quiet ((go_at_call 28; exact Calls.quiet_of (l19Units_q A n c xs ((a + b) / 2) (partsI xs) _ (hL.drewN _) ok.b (by omega) hU)))
                      have hq9 : Below wr.heap.size wr (wr.drewN nq) ∧ (wr.drewN nq).cell? ⟨bb, off + q, none⟩ = some (.int .i64 x) := ⟨below_drewN (Below.refl _ _) _, c0⟩
                      generalize wr.drewN nq = w3 at hq9 ⊢
                      go_wp2_with fail
                      go_roundw
                      case rel => exact ⟨a, (a + b) / 2, rfl, rfl, ha, hm1, by omega, hlo, fun _ => by omega, ho.below hq9.1, below_mid hb hq9.1 hb.size⟩
                      case measure => simp [intOf]; omega
                  · have hq1 : b = a + 1 := by omega
                    subst hq1
                    have HA : BtAt (partsI xs) xs (x * partsI xs) a := ⟨ha, by omega, hlo, fun h3 => hhi h3⟩
                    have HF := Lib.hid (fcOne_at HU.out (by omega) HA)
                    clear hhi HA
                    have hE1 := unI_le (U := partsI xs) (b := a) ok.b hU (by omega)
                    have hE2 := unI_le (U := partsI xs) (b := a + 1) ok.b hU (by omega)
                    have r3 : IntKind.i64.wrap (x * partsI xs - unI (partsI xs) xs a) = x * partsI xs - unI (partsI xs) xs a := wr64 (by omega)
                    have r4 : IntKind.i64.wrap (unI (partsI xs) xs (a + 1) - x * partsI xs) = unI (partsI xs) xs (a + 1) - x * partsI xs := wr64 (by omega)
                    have HL := Lib.hid (fcK_len (xs := xs) hlm hq)
                    go_wp2_with fail
                    go_quiet ((go_at_call 28; exact Calls.quiet_of (l19Units_q A n c xs a (partsI xs) _ (hL.drewN _) ok.b (by omega) hU)))
                    have hq9 : Below wr.heap.size wr (wr.drewN nq) ∧ (wr.drewN nq).cell? ⟨bb, off + q, none⟩ = some (.int .i64 x) := ⟨below_drewN (Below.refl _ _) _, c0⟩
                    generalize wr.drewN nq = w3 at hq9 ⊢
                    have ho3 := ho.below hq9.1
                    have hb3 := below_mid hb hq9.1 hb.size
                    have hL3 := hL.below hq9.1
                    have c3 := hq9.2
                    clear hq9 ho hb hL c0
                    by_cases hc1 : a + 1 < btI xs
                    · have hd1 : decide (a + 1 < btI xs) = true := by simp [hc1]
                      by_cases hc2 : unI (partsI xs) xs (a + 1) - x * partsI xs < x * partsI xs - unI (partsI xs) xs a
                      · have HV : Hid (fcOne xs x = a + 1) := by rw [Hid, HF.out, if_pos ⟨hc1, hc2⟩]
                        go_wp2_with fail
                        go_quiet ((go_at_call 28; exact Calls.quiet_of (l19Units_q A n c xs (a + 1) (partsI xs) _ (hL3.drewN _) ok.b (by omega) hU)))
                        go_wp2_with (at_builtin; clear hd1 r2 r3 r4 g1 g2; refine wpList_app1 rfl (.tmp 101) (.tmp 103) 37 2 rfl w5.heap.size i0 _ 1 8 Try.underlying37 hi0 hz0 hz1 hz2 rfl (by decide) e1 e1_len e1_one _ (fcK xs ss q) rfl ((ho3.drewN _).alloc _) (a + 1) _ _ rfl (newcell _ _ _ _ (by simp)) (by rw [HL.out]; omega) (by rw [HL.out]; unfold maxLen; omega) ((below_drewN hb3 _).alloc (below_drewN hb3 _).size _).size ?_; intro v9 w9 ho9 hb9)
                        go_roundw
                        case rel => exact ⟨q + 1, by omega, by go_num, by rw [fcK_step xs HX.out, HV.out]; exact ho9, ((below_drewN hb3 _).alloc (below_drewN hb3 _).size _).trans hb9⟩
                        case measure => simp [intOf]; omega
                      · have HV : Hid (fcOne xs x = a) := by rw [Hid, HF.out, if_neg (fun h => hc2 h.2)]
                        go_wp2_with fail
                        go_quiet ((go_at_call 28; exact Calls.quiet_of (l19Units_q A n c xs (a + 1) (partsI xs) _ (hL3.drewN _) ok.b (by omega) hU)))
                        go_wp2_with (at_builtin; clear hd1 r2 r3 r4 g1 g2; refine wpList_app1 rfl (.tmp 101) (.tmp 103) 37 2 rfl w5.heap.size i0 _ 1 8 Try.underlying37 hi0 hz0 hz1 hz2 rfl (by decide) e1 e1_len e1_one _ (fcK xs ss q) rfl ((ho3.drewN _).alloc _) a _ _ rfl (newcell _ _ _ _ (by simp)) (by rw [HL.out]; omega) (by rw [HL.out]; unfold maxLen; omega) ((below_drewN hb3 _).alloc (below_drewN hb3 _).size _).size ?_; intro v9 w9 ho9 hb9)
                        go_roundw
                        case rel => exact ⟨q + 1, by omega, by go_num, by rw [fcK_step xs HX.out, HV.out]; exact ho9, ((below_drewN hb3 _).alloc (below_drewN hb3 _).size _).trans hb9⟩
                        case measure => simp [intOf]; omega
                    · have HV : Hid (fcOne xs x = a) := by rw [Hid, HF.out, if_neg (fun h => hc1 h.1)]
                      have hd1 : decide (a + 1 < btI xs) = false := by simp only [hc1, decide_false]
                      go_wp2_with fail
                      go_quiet (fail)
                      go_wp2_with (at_builtin; clear hd1 r2 r3 r4 g1 g2; refine wpList_app1 rfl (.tmp 101) (.tmp 103) 37 2 rfl w5.heap.size i0 _ 1 8 Try.underlying37 hi0 hz0 hz1 hz2 rfl (by decide) e1 e1_len e1_one _ (fcK xs ss q) rfl ((ho3.drewN _).alloc _) a _ _ rfl (newcell _ _ _ _ (by simp)) (by rw [HL.out]; omega) (by rw [HL.out]; unfold maxLen; omega) ((below_drewN hb3 _).alloc (below_drewN hb3 _).size _).size ?_; intro v9 w9 ho9 hb9)
                      go_roundw
                      case rel => exact ⟨q + 1, by omega, by go_num, by rw [fcK_step xs HX.out, HV.out]; exact ho9, ((below_drewN hb3 _).alloc (below_drewN hb3 _).size _).trans hb9⟩
                      case measure => simp [intOf]; omega
              · have : q = k := by omega
                subst this
                go_wp2_with fail
                go_ret2
                rw [H1.out, ← HM.out]
                exact RetOwnC.mk (ho.mono hWb.size) (below_mid hWb hb hWb.size)

end Go.Proofs.Ytoehlgfjfdfnfaa
