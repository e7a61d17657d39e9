/-
  Contracts of the functions on wheels: when all have wanted places.
-/
import Derived.Test.YtbpbfndfjahmlaaWhA
namespace Go.Proofs.Ytbpbfndfjahmlaa
open Go.RowKit

theorem ftVal_no {c : Int} {xs : List (Int × Bool)} {ws : List Int} (h : ftCode c xs ws ≠ 0) : ftVal c xs ws = 0 := by rw [ftVal, if_neg h]
theorem shF_zero {x : Int × Bool} {wd st t : Int} : shF x wd st 0 t = none := rfl

set_option maxRecDepth 100000 in
set_option maxHeartbeats 1600000 in
theorem implFirstTogether_any (r : Int) (A : Option Addr) (n c : Nat) (xs : List (Int × Bool)) (B : Option Addr) (m d : Nat) (ws : List Int) (w : World) (_hr : In64 r) (h : Sl w 2 eWheel A n xs) (hn : n ≤ 1048577) (hs : Sl w 1 e1 B m ws) (hm : m ≤ 1048577) :
    Calls Try.prog 8 #[.int .i64 r, .slice A n c, .slice B m d] w fun e w' => e = .returned (.tuple #[.int .i64 (ftVal r xs ws), .int .i64 (ftCode r xs ws)]) ∧ Below w.heap.size w w' := by
  have hl := h.1
  have hl2 := hs.1
  cases hok : whOk r xs
  · have H1 : Hid (ftCode r xs ws = 1) := by rw [Hid, ftCode, hok]; rfl
    have H2 : Hid (ftVal r xs ws = 0) := ftVal_no (by rw [H1.out]; decide)
    go_enter Try.func8, Try.ntmps8
    go_wp2_with fail
    refine (ValidWheels_any r A n c xs _ h hn).mono ?_
    rintro e w2 ⟨rfl, hb2⟩
    rw [hok]
    go_wp2_with fail
    go_ret2
    exact ⟨ret2 H2.out.symm H1.out.symm, hb2⟩
  · have ok := whOk_iff.1 hok
    have hn8 : n ≤ 8 := by rw [← hl]; exact ok.len
    by_cases hmn : m = n
    · subst hmn
      have HF : Hid (ftCode r xs ws = if wantOk xs ws then (if 1000000000 < rtK xs m then 5 else (if (ftI xs ws).isSome then 0 else 3)) else 2) := by rw [Hid, ftCode, hok, if_pos rfl, if_pos (by omega), hl]
      go_enter Try.func8, Try.ntmps8
      go_wp2_with fail
      refine (ValidWheels_any r A m c xs _ h hn).mono ?_
      rintro e w2 ⟨rfl, hb2⟩
      rw [hok]
      go_wp2_with fail
      go_loopw [26] (fun i wr => ∃ k : Nat, k ≤ m ∧ i = .int .i64 k ∧ Hid (WantK xs ws k) ∧ Below w.heap.size w wr) (fun i _ => m - (intOf i).toNat)
      case atStart => exact ⟨0, by omega, rfl, (fun i x wd hi => by omega : WantK xs ws 0), hb2⟩
      case round =>
        obtain ⟨k, hk, rfl, he, hb⟩ := hrel
        by_cases hlt : k < m
        · obtain ⟨b, off, x, rfl, hx, hmx, c0, c1⟩ := (h.below hb).atWheel hlt
          obtain ⟨bw, offw, wd, rfl, hw, _, cw⟩ := (hs.below hb).at1 hlt
          have hx1 := ok.one x hmx
          have HX := Lib.hid hx
          have HWD := Lib.hid hw
          have g1 : (0 : Int) ≤ (k : Int) := by omega
          have g2 : (k : Int) < (m : Int) := by omega
          have r1 : IntKind.i64.wrap (x.1 - 1) = x.1 - 1 := wr64 (by omega)
          clear hx hw
          cases q1 : inB wd 0 (x.1 - 1)
          · have H1 : Hid (ftCode r xs ws = 2) := by rw [Hid, HF.out, wantOk_no HX.out HWD.out q1]; rfl
            have H2 : Hid (ftVal r xs ws = 0) := ftVal_no (by rw [H1.out]; decide)
            go_wp2_with fail
            generalize hbx : wr.heap.size = bx
            have hbW : Below w.heap.size w (wr.alloc (.cells #[.int .i64 x.1, .bool x.2] 36)) := hb.alloc hb.size _
            have d0 : (wr.alloc (.cells #[.int .i64 x.1, .bool x.2] 36)).cell? ⟨bx, 0, none⟩ = some (.int .i64 x.1) := by subst hbx; simp [go_sem]
            have dw := cell_al cw (.cells #[.int .i64 x.1, .bool x.2] 36)
            clear c0 c1 cw
            generalize wr.alloc (.cells #[.int .i64 x.1, .bool x.2] 36) = W1 at hbW d0 dw ⊢
            go_quiet ((go_at_call 18; exact quiet_left (within_any _ _ _ _)))
            go_wp2_with fail
            go_ret2
            exact ⟨ret2 H2.out.symm H1.out.symm, below_drewN hbW _⟩
          · go_wp2_with fail
            generalize hbx : wr.heap.size = bx
            have hbW : Below w.heap.size w (wr.alloc (.cells #[.int .i64 x.1, .bool x.2] 36)) := hb.alloc hb.size _
            have d0 : (wr.alloc (.cells #[.int .i64 x.1, .bool x.2] 36)).cell? ⟨bx, 0, none⟩ = some (.int .i64 x.1) := by subst hbx; simp [go_sem]
            have dw := cell_al cw (.cells #[.int .i64 x.1, .bool x.2] 36)
            clear c0 c1 cw
            generalize wr.alloc (.cells #[.int .i64 x.1, .bool x.2] 36) = W1 at hbW d0 dw ⊢
            go_quiet ((go_at_call 18; exact quiet_left (within_any _ _ _ _)))
            go_wp2_with fail
            go_roundw
            case rel => exact ⟨k + 1, by omega, by go_num, wantK_step he.out HX.out HWD.out q1, below_drewN hbW _⟩
            case measure => simp [intOf]; omega
        · have : k = m := by omega
          subst this
          have HALL : Hid (wantOk xs ws = true) := wantK_all (by rw [hl]; exact he.out)
          go_wp2_with fail
          refine (returnAfter_any A k c xs _ (h.below hb) hn8 ok.one).mono ?_
          rintro e w5 ⟨rfl, hb5⟩
          have hb6 := below_mid hb hb5 hb.size
          by_cases hq : 1000000000 < rtK xs k
          · have H1 : Hid (ftCode r xs ws = 5) := by rw [Hid, HF.out, HALL.out, if_pos rfl, if_pos hq]
            have H2 : Hid (ftVal r xs ws = 0) := ftVal_no (by rw [H1.out]; decide)
            go_wp2_with fail
            go_ret2
            exact ⟨ret2 H2.out.symm H1.out.symm, hb6⟩
          · have HC : Hid (ftCode r xs ws = if (ftI xs ws).isSome then 0 else 3) := by rw [Hid, HF.out, HALL.out, if_pos rfl, if_neg hq]
            go_wp2_with fail
            go_loopw [10, 11, 46] (fun v st i wr => ∃ q : Nat, ∃ t : Int, q ≤ k ∧ i = .int .i64 q ∧ v = .int .i64 t ∧ st = .int .i64 (rtK xs q) ∧ Hid (ftG xs ws q = some t) ∧ 0 ≤ t ∧ t ≤ (q : Int) * 300000000000 ∧ Below w.heap.size w wr) (fun _ _ i _ => k - (intOf i).toNat)
            case atStart => exact ⟨0, 0, by omega, rfl, rfl, rfl, rfl, by omega, by omega, hb6⟩
            case round =>
              obtain ⟨q, t, hqk, rfl, rfl, rfl, hg, ht0, ht1, hb⟩ := hrel
              by_cases hlt : q < k
              · obtain ⟨b, off, x, rfl, hx, hmx, c0, c1⟩ := (h.below hb).atWheel hlt
                obtain ⟨bw, offw, wd, rfl, hw, _, cw⟩ := (hs.below hb).at1 hlt
                have hx1 := ok.one x hmx
                have HS := Lib.hid (rtK_step hx)
                have hp := (rtK_pos ok.one q).1
                have hle1 := rtK_le ok.one (show q ≤ k by omega)
                have hle2 := rtK_le ok.one (show q + 1 ≤ k by omega)
                have HG := Lib.hid (ftG_step hg.out hx hw)
                have HA := Lib.hid (shF_again (x := x) (wd := wd) (st := rtK xs q) (t := t) (by omega))
                obtain ⟨T, hT⟩ : ∃ T : Nat, x.1 = (T : Int) := ⟨x.1.toNat, by omega⟩
                have hTT : x.1.toNat = T := by omega
                rw [hTT] at HG HA
                have hT200 : T ≤ 200 := by omega
                have HT := Lib.hid hT
                clear hT hTT
                have hst : Hid (rtK xs q = rtK xs q) := rfl
                generalize hR : rtK xs q = st at HS hp hle1 HG HA ⊢
                have g1 : (0 : Int) ≤ (q : Int) := by omega
                have g2 : (q : Int) < (k : Int) := by omega
                have HX := Lib.hid hx
                clear hx hw
                go_wp2_with fail
                generalize hbx : wr.heap.size = bx
                have hbW : Below w.heap.size w (wr.alloc (.cells #[.int .i64 x.1, .bool x.2] 36)) := hb.alloc hb.size _
                have d0 : (wr.alloc (.cells #[.int .i64 x.1, .bool x.2] 36)).cell? ⟨bx, 0, none⟩ = some (.int .i64 x.1) := by subst hbx; simp [go_sem]
                have d1 : (wr.alloc (.cells #[.int .i64 x.1, .bool x.2] 36)).cell? ⟨bx, 1, none⟩ = some (.bool x.2) := by subst hbx; simp [go_sem]
                have dw := cell_al cw (.cells #[.int .i64 x.1, .bool x.2] 36)
                clear c0 c1 cw hbx
                generalize wr.alloc (.cells #[.int .i64 x.1, .bool x.2] 36) = W1 at hbW d0 d1 dw ⊢
                go_loopw [10, 14] (fun v i wr => ∃ j : Nat, j ≤ T ∧ i = .int .i64 j ∧ v = .int .i64 (t + j * st) ∧ Hid (shF x wd st (T + 1) t = shF x wd st (T + 1 - j) (t + j * st)) ∧ wr.cell? ⟨bx, 0, none⟩ = some (.int .i64 x.1) ∧ wr.cell? ⟨bx, 1, none⟩ = some (.bool x.2) ∧ wr.cell? ⟨bw, offw + q, none⟩ = some (.int .i64 wd) ∧ Below w.heap.size w wr) (fun _ i _ => T + 1 - (intOf i).toNat)
                case atStart => exact ⟨0, by omega, rfl, by simp, by simp [Hid], d0, d1, dw, hbW⟩
                case round =>
                  obtain ⟨j, hj, rfl, rfl, hs1, d0, d1, dw, hb⟩ := hrel
                  have hjs0 : 0 ≤ (j : Int) * st := Int.mul_nonneg (by omega) (by omega)
                  have hjs1 : (j : Int) * st ≤ 200 * 1000000000 := Int.mul_le_mul (by omega) (by omega) (by omega) (by omega)
                  have hj1 : ((j + 1 : Nat) : Int) * st = (j : Int) * st + st := by rw [Int.natCast_succ, Int.add_mul, Int.one_mul]
                  have HV : Hid (t + ((j + 1 : Nat) : Int) * st = t + (j : Int) * st + st) := by rw [Hid, hj1]; omega
                  have HN : Hid (T + 1 - j = (T - j) + 1) := by rw [Hid]; omega
                  clear hj1
                  generalize hCur : t + (j : Int) * st = cur at hs1 HV ⊢
                  have hc0 : 0 ≤ cur := by omega
                  have hc1 : cur ≤ 2600000000000 := by omega
                  have hc2 : cur ≤ ((q + 1 : Nat) : Int) * 300000000000 := by omega
                  clear hCur hjs0 hjs1
                  by_cases hq : whP x cur = wd
                  · have HH : Hid (ftG xs ws (q + 1) = some cur) := by rw [Hid, HG.out, ← HA.out, hs1.out, HN.out, shF_hit hq]
                    have hne : (whP x cur != wd) = false := by simp [hq]
                    go_wp2_with fail
                    go_region_held3 (fun w' => Below wr.heap.size wr w' ∧ w'.cell? ⟨bx, 0, none⟩ = some (.int .i64 x.1) ∧ w'.cell? ⟨bx, 1, none⟩ = some (.bool x.2) ∧ w'.cell? ⟨bw, offw + q, none⟩ = some (.int .i64 wd))
                      (first
                        | exact ⟨(Below.refl _ _).drew, d0, d1, dw⟩
                        | assumption
                        | (obtain ⟨hq1, hq2, hq3, hq4⟩ := (show Below wr.heap.size wr _ ∧ World.cell? _ ⟨bx, 0, none⟩ = some (.int .i64 x.1) ∧ World.cell? _ ⟨bx, 1, none⟩ = some (.bool x.2) ∧ World.cell? _ ⟨bw, offw + q, none⟩ = some (.int .i64 wd) from by assumption)
                           exact ⟨below_mid hq1 hb3 hq1.size, (hb3.cell (World.block_lt_of_cell? _ _ hq2)).trans hq2, (hb3.cell (World.block_lt_of_cell? _ _ hq3)).trans hq3, (hb3.cell (World.block_lt_of_cell? _ _ hq4)).trans hq4⟩)
                        | trace_state)
                      ((go_at_call 20; refine (place_any x cur _ ⟨hc0, by omega⟩ hx1).mono ?_; rintro rr w3 ⟨rfl, hb3⟩))
                    have hq9 := (show Below wr.heap.size wr _ ∧ World.cell? _ ⟨bx, 0, none⟩ = some (.int .i64 x.1) ∧ World.cell? _ ⟨bx, 1, none⟩ = some (.bool x.2) ∧ World.cell? _ ⟨bw, offw + q, none⟩ = some (.int .i64 wd) from by assumption)
                    obtain ⟨hbb, e0, e1, ew⟩ := hq9
                    have hbn := below_mid hb hbb hb.size
                    have hB : rtF st x.1 ≤ 9223372036854775807 := by rw [← HS.out]; omega
                    go_wp2_with fail
                    refine (commonW_any st x.1 _ (by omega) (by omega) hB).mono ?_
                    rintro e w8 ⟨rfl, hb8⟩
                    go_wp2_with fail
                    go_roundw
                    case rel => exact ⟨q + 1, cur, by omega, by go_num, rfl, by rw [HS.out], HH, hc0, hc2, below_mid hbn hb8 hbn.size⟩
                    case measure => simp [intOf]; omega
                  · have hne : (whP x cur != wd) = true := by rw [bne_iff_ne]; exact hq
                    have HM : Hid (shF x wd st (T + 1) t = shF x wd st (T - j) (cur + st)) := by rw [Hid, hs1.out, HN.out, shF_miss hq]
                    by_cases hj2 : j = T
                    · have hte : ((j : Int) == x.1) = true := by rw [beq_iff_eq, HT.out, hj2]
                      have HNO : Hid (ftG xs ws (q + 1) = none) := by rw [Hid, HG.out, ← HA.out, HM.out, hj2, Nat.sub_self]; rfl
                      have HI : Hid (ftI xs ws = none) := ftG_none HNO.out (by omega)
                      have H1 : Hid (ftCode r xs ws = 3) := by rw [Hid, HC.out, HI.out]; rfl
                      have H2 : Hid (ftVal r xs ws = 0) := ftVal_no (by rw [H1.out]; decide)
                      clear hj2
                      go_wp2_with fail
                      go_region_held3 (fun w' => Below wr.heap.size wr w' ∧ w'.cell? ⟨bx, 0, none⟩ = some (.int .i64 x.1) ∧ w'.cell? ⟨bx, 1, none⟩ = some (.bool x.2) ∧ w'.cell? ⟨bw, offw + q, none⟩ = some (.int .i64 wd))
                        (first
                          | exact ⟨(Below.refl _ _).drew, d0, d1, dw⟩
                          | assumption
                          | (obtain ⟨hq1, hq2, hq3, hq4⟩ := (show Below wr.heap.size wr _ ∧ World.cell? _ ⟨bx, 0, none⟩ = some (.int .i64 x.1) ∧ World.cell? _ ⟨bx, 1, none⟩ = some (.bool x.2) ∧ World.cell? _ ⟨bw, offw + q, none⟩ = some (.int .i64 wd) from by assumption)
                             exact ⟨below_mid hq1 hb3 hq1.size, (hb3.cell (World.block_lt_of_cell? _ _ hq2)).trans hq2, (hb3.cell (World.block_lt_of_cell? _ _ hq3)).trans hq3, (hb3.cell (World.block_lt_of_cell? _ _ hq4)).trans hq4⟩)
                          | trace_state)
                        ((go_at_call 20; refine (place_any x cur _ ⟨hc0, by omega⟩ hx1).mono ?_; rintro rr w3 ⟨rfl, hb3⟩))
                      have hq9 := (show Below wr.heap.size wr _ ∧ World.cell? _ ⟨bx, 0, none⟩ = some (.int .i64 x.1) ∧ World.cell? _ ⟨bx, 1, none⟩ = some (.bool x.2) ∧ World.cell? _ ⟨bw, offw + q, none⟩ = some (.int .i64 wd) from by assumption)
                      obtain ⟨hbb, e0, e1, ew⟩ := hq9
                      have hbn := below_mid hb hbb hb.size
                      go_wp2_with fail
                      go_ret2
                      exact ⟨ret2 H2.out.symm H1.out.symm, hbn⟩
                    · have hte : ((j : Int) == x.1) = false := by rw [beq_eq_false_iff_ne, HT.out]; omega
                      have HN2 : Hid (T + 1 - (j + 1) = T - j) := by rw [Hid]; omega
                      have hjT : j + 1 ≤ T := by omega
                      clear hj2
                      go_wp2_with fail
                      go_region_held3 (fun w' => Below wr.heap.size wr w' ∧ w'.cell? ⟨bx, 0, none⟩ = some (.int .i64 x.1) ∧ w'.cell? ⟨bx, 1, none⟩ = some (.bool x.2) ∧ w'.cell? ⟨bw, offw + q, none⟩ = some (.int .i64 wd))
                        (first
                          | exact ⟨(Below.refl _ _).drew, d0, d1, dw⟩
                          | assumption
                          | (obtain ⟨hq1, hq2, hq3, hq4⟩ := (show Below wr.heap.size wr _ ∧ World.cell? _ ⟨bx, 0, none⟩ = some (.int .i64 x.1) ∧ World.cell? _ ⟨bx, 1, none⟩ = some (.bool x.2) ∧ World.cell? _ ⟨bw, offw + q, none⟩ = some (.int .i64 wd) from by assumption)
                             exact ⟨below_mid hq1 hb3 hq1.size, (hb3.cell (World.block_lt_of_cell? _ _ hq2)).trans hq2, (hb3.cell (World.block_lt_of_cell? _ _ hq3)).trans hq3, (hb3.cell (World.block_lt_of_cell? _ _ hq4)).trans hq4⟩)
                          | trace_state)
                        ((go_at_call 20; refine (place_any x cur _ ⟨hc0, by omega⟩ hx1).mono ?_; rintro rr w3 ⟨rfl, hb3⟩))
                      have hq9 := (show Below wr.heap.size wr _ ∧ World.cell? _ ⟨bx, 0, none⟩ = some (.int .i64 x.1) ∧ World.cell? _ ⟨bx, 1, none⟩ = some (.bool x.2) ∧ World.cell? _ ⟨bw, offw + q, none⟩ = some (.int .i64 wd) from by assumption)
                      obtain ⟨hbb, e0, e1, ew⟩ := hq9
                      have hbn := below_mid hb hbb hb.size
                      go_wp2_with fail
                      go_roundw
                      case rel => exact ⟨j + 1, hjT, by go_num, by rw [HV.out], by rw [Hid, HM.out, HN2.out, HV.out], e0, e1, ew, hbn⟩
                      case measure => simp [intOf]; omega
              · have : q = k := by omega
                subst this
                have HI : Hid (ftI xs ws = some t) := by rw [Hid, ftI, hl]; exact hg.out
                have H1 : Hid (ftCode r xs ws = 0) := by rw [Hid, HC.out, HI.out]; rfl
                have H2 : Hid (ftVal r xs ws = t) := by rw [Hid, ftVal, if_pos H1.out, HI.out]; rfl
                go_wp2_with fail
                go_ret2
                exact ⟨ret2 H2.out.symm H1.out.symm, hb⟩
    · have H1 : Hid (ftCode r xs ws = 2) := by rw [Hid, ftCode, hok, if_pos rfl, if_neg (by rw [hl, hl2]; exact hmn)]
      have H2 : Hid (ftVal r xs ws = 0) := ftVal_no (by rw [H1.out]; decide)
      have hne : ((m : Int) != (n : Int)) = true := by rw [bne_iff_ne]; omega
      go_enter Try.func8, Try.ntmps8
      go_wp2_with fail
      refine (ValidWheels_any r A n c xs _ h hn).mono ?_
      rintro e w2 ⟨rfl, hb2⟩
      rw [hok]
      go_wp2_with fail
      go_ret2
      exact ⟨ret2 H2.out.symm H1.out.symm, hb2⟩

end Go.Proofs.Ytbpbfndfjahmlaa
