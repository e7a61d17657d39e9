/-
  The sort of bytes.
-/
import Derived.Test.YtcfbnlkkoifiiaaQsB
import Derived.Test.YtcfbnlkkoifiiaaQsD
import Derived.Test.YtcfbnlkkoifiiaaQsE
import Derived.Test.YtcfbnlkkoifiiaaQsF
import Derived.Test.YtcfbnlkkoifiiaaQsG
import Derived.Test.YtcfbnlkkoifiiaaQt
import Derived.Sort.LotB
import Derived.Deep.DeepCutAuto
namespace Go.Proofs.Ytcfbnlkkoifiiaa
open Go.RowKit Go.Sort

/-- what a call of the sort does -/
def SortB (g off cap n a b lim : Nat) : Prop := ∀ (d : Array Int) (w : World), Hb g off d w → g < w.heap.size → d.size = n → a ≤ b → b ≤ n → lim ≤ 64 → Bw a b d →
  Calls Try.prog 37 #[.slice (some ⟨g, off, none⟩) n cap, .int .i64 a, .int .i64 b, .int .i64 lim] w fun e w' => e = .returned (.tuple #[]) ∧ ∃ d' : Array Int, PermIn a b d d' ∧ SortedIn ltInt a b d' ∧ Hb g off d' w' ∧ Kg g w w'
set_option maxHeartbeats 12800000 in
set_option maxRecDepth 100000 in
theorem sortB_step (g off cap n a b lim : Nat) (hs : n ≤ 40) (ih : ∀ a2 b2 lim2, b2 - a2 < b - a → SortB g off cap n a2 b2 lim2) : SortB g off cap n a b lim := by
  have HIH := Lib.hid ih
  clear ih
  intro d w h hg hn hab hb hlim hbw
  have hF := Lib.hid (Fit.start (by omega) hab hbw)
  clear hbw
  go_enter Try.func37, Try.ntmps37
  go_wp2
  go_loopw [1, 2, 3, 8, 9] (fun v1 v2 v3 v8 v9 wr => ∃ (a1 b1 lm : Nat) (bal part : Bool) (dk : Array Int), v1 = .int .i64 a1 ∧ v2 = .int .i64 b1 ∧ v3 = .int .i64 lm ∧ v8 = .bool bal ∧ v9 = .bool part ∧ lm ≤ 64 ∧ b1 - a1 ≤ b - a ∧ Hid (Fit a b d a1 b1 dk) ∧ Hb g off dk wr ∧ Kg g w wr) (fun v1 v2 _ _ _ _ => (intOf v2).toNat - (intOf v1).toNat)
  case atStart => exact ⟨a, b, lim, true, true, d, rfl, rfl, rfl, rfl, rfl, hlim, Nat.le_refl _, hF, h, Kp.refl _ _⟩
  case round =>
    clear hF h
    obtain ⟨a1, b1, lm, bal, part, dk, rfl, rfl, rfl, rfl, rfl, hlm, hab1, hF, hh, hk⟩ := hrel
    have f1 := hF.out.la
    have f2 := hF.out.lb
    have f3 := hF.out.ab
    have hdk : dk.size = n := hF.out.sz.trans hn
    have hgr : g < wr.heap.size := Nat.lt_of_lt_of_le hg hk.size
    by_cases h12 : b1 - a1 ≤ 12
    · go_wp2_with fail
      refine (insSortB_any g off cap a1 b1 n dk _ hh hdk f3 (by omega) hs).mono ?_
      rintro e w2 ⟨rfl, h2, k2⟩
      obtain ⟨p1, p2⟩ := insertionSort_holds swo_ltInt dk a1 b1 f3 (by omega)
      have hfin := hF.out.done p1 p2
      go_wp2_with fail
      refine bodyPost_ret (results_none rfl _ _ _) rfl ?_
      exact ⟨rfl, _, hfin.1, hfin.2, h2, hk.trans k2⟩
    · have g1 : (12 : Int) < (b1 : Int) - (a1 : Int) := by omega
      by_cases hl0 : lm = 0
      · subst hl0
        go_wp2_with fail
        refine (heapB_any g off cap a1 b1 n dk _ hh hdk (by omega) (by omega) hs).mono ?_
        rintro e w2 ⟨rfl, h2, k2⟩
        obtain ⟨p1, p2⟩ := heapSort_holds swo_ltInt dk a1 b1 f3 (by omega)
        have hfin := hF.out.done p1 p2
        go_wp2_with fail
        refine bodyPost_ret (results_none rfl _ _ _) rfl ?_
        exact ⟨rfl, _, hfin.1, hfin.2, h2, hk.trans k2⟩
      · go_upto_if 35 with fail
        go_cut [3] (fun v3 wx => ∃ (lm2 : Nat) (dk2 : Array Int), v3 = .int .i64 lm2 ∧ lm2 ≤ 64 ∧ Hid (Fit a b d a1 b1 dk2) ∧ Hb g off dk2 wx ∧ Kg g w wx)
        case first =>
          cases bal
          · go_wp2_with fail
            refine (breakB_any g off cap a1 b1 n dk _ hh hgr hdk (by omega) (by omega) hs).mono ?_
            rintro e w2 ⟨rfl, d2, hp2, hsz2, h2, k2⟩
            have hF2 : Hid (Fit a b d a1 b1 d2) := hF.out.move hp2
            go_wp2_with fail
            go_meet
            exact ⟨lm - 1, d2, by congr 1; omega, by omega, hF2, h2, hk.trans k2⟩
          · go_wp2_with fail
            go_meet
            exact ⟨lm, dk, rfl, hlm, hF, hh, hk⟩
        case rest =>
          clear hh hk hF hdk
          obtain ⟨lm2, dk2, rfl, hlm2, hF2, hh2, hk2⟩ := hcut
          have hdk2 : dk2.size = n := hF2.out.sz.trans hn
          have hg2 : g < wc.heap.size := Nat.lt_of_lt_of_le hg hk2.size
          go_wp2_with fail
          refine (pivotB_any g off cap a1 b1 n dk2 _ hh2 hg2 hdk2 (by omega) (by omega) hs).mono ?_
          rintro e w3 ⟨pv, hint, rfl, q1, q2, hb3⟩
          have hh3 : Hb g off dk2 w3 := hh2.kp (gs := wc.heap.size) (Kp.of_below hb3) (by omega)
          have hk3 : Kg g w w3 := hk2.trans (Kp.of_below hb3)
          clear hh2 hk2 hb3
          go_upto_if 50 with fail
          go_cut [11, 12] (fun v11 v12 wx => ∃ (pv2 : Nat) (hint2 : Int) (dk3 : Array Int), v11 = .int .i64 pv2 ∧ v12 = .int .i64 hint2 ∧ a1 ≤ pv2 ∧ pv2 < b1 ∧ Hid (Fit a b d a1 b1 dk3) ∧ Hb g off dk3 wx ∧ Kg g w wx)
          case first =>
            by_cases h2 : hint = 2
            · subst h2
              go_wp2_with fail
              refine (revB_any g off cap a1 b1 n dk2 _ hh3 hdk2 (by omega) (by omega) hs).mono ?_
              rintro e w4 ⟨rfl, d4, hp4, hsz4, h4, k4⟩
              have hF4 : Hid (Fit a b d a1 b1 d4) := hF2.out.move hp4
              go_wp2_with fail
              go_meet
              exact ⟨b1 - 1 - (pv - a1), 1, d4, by congr 1; omega, rfl, by omega, by omega, hF4, h4, hk3.trans k4⟩
            · go_wp2_with fail
              go_meet
              exact ⟨pv, hint, dk2, rfl, rfl, q1, q2, hF2, hh3, hk3⟩
          case rest =>
            clear q1 q2 hh3 hk3 hF2 hdk2
            obtain ⟨pv2, hint2, dk3, rfl, rfl, q1, q2, hF3, hh3, hk3⟩ := hcut
            have hdk3 : dk3.size = n := hF3.out.sz.trans hn
            go_upto_region 15 with fail
            go_cut [68] (fun c wx => ∃ cb : Bool, c = .bool cb ∧ Hb g off dk3 wx ∧ Kg g w wx)
            case first =>
              cases bal
              · go_wp2_with fail
                go_meet
                exact ⟨_, rfl, hh3, hk3⟩
              · cases part
                · go_wp2_with fail
                  go_meet
                  exact ⟨_, rfl, hh3, hk3⟩
                · by_cases hi1 : hint2 = 1
                  · subst hi1
                    go_wp2_with fail
                    go_meet
                    exact ⟨_, rfl, hh3, hk3⟩
                  · go_wp2_with fail
                    go_meet
                    exact ⟨_, rfl, hh3, hk3⟩
            case rest =>
              clear hh3 hk3
              obtain ⟨cb, rfl, hh3, hk3⟩ := hcut
              cases cb
              · obtain ⟨G, HG, hc, hf⟩ := hh3.fam hdk3
                have s1 : pv2 < n := by omega
                by_cases ha0 : a1 = 0
                · have gq : decide ((0 : Int) < (a1 : Int)) = false := decide_eq_false (by omega)
                  have gqN : decide (0 < a1) = false := decide_eq_false (by omega)
                  clear ha0
                  go_wp2_with fail
                  go_quiet (first | (go_at_call 49; refine Calls.quiet_of_same (lessB_any _ _ _)))
                  generalize hW : wc.drewN nq = wt
                  replace hh3 : Hb g off dk3 wt := by rw [← hW]; exact hh3.drewN _
                  replace hk3 : Kg g w wt := by rw [← hW]; exact Kg.drewN hk3 _
                  clear hW hc hf
                  obtain ⟨p, hp⟩ : ∃ p, Hid (dk3[pv2]! = p) := ⟨_, rfl⟩
                  go_wp2_with fail
                  refine (partB_any g off cap a1 b1 n pv2 p dk3 _ hh3 hdk3 (by omega) (by omega) hs q1 q2 hp).mono ?_
                  rintro e w4 ⟨mid, fl, d4, rfl, hr, h4, k4⟩
                  have m1 := hr.le
                  have m2 := hr.lt
                  have hd4 : d4.size = n := hr.sz.trans hdk3
                  have hg4 : g < w4.heap.size := Nat.lt_of_lt_of_le hg (hk3.trans k4).size
                  by_cases hlr : mid - a1 < b1 - mid
                  · go_wp2_with fail
                    refine (HIH.out a1 mid lm2 (by omega) d4 _ h4 hg4 hd4 m1 (by omega) hlm2 (hr.bwL hF3.out.bw (by omega))).mono ?_
                    rintro e w5 ⟨rfl, d5, hp5, hs5, h5, k5⟩
                    have hF5 : Hid (Fit a b d (mid + 1) b1 d5) := hF3.out.left hr hp5 hs5
                    go_wp2_with fail
                    go_roundw
                    case rel => exact ⟨mid + 1, b1, lm2, _, fl, d5, by go_num, rfl, rfl, rfl, rfl, hlm2, by omega, hF5, h5, (hk3.trans k4).trans k5⟩
                    case measure => simp [intOf]; omega
                  · go_wp2_with fail
                    rw [show (mid : Int) + 1 = ((mid + 1 : Nat) : Int) from by omega]
                    refine (HIH.out (mid + 1) b1 lm2 (by omega) d4 _ h4 hg4 hd4 (by omega) (by omega) hlm2 hr.bwR).mono ?_
                    rintro e w5 ⟨rfl, d5, hp5, hs5, h5, k5⟩
                    have hF5 : Hid (Fit a b d a1 mid d5) := hF3.out.right hr hp5 hs5
                    go_wp2_with fail
                    go_roundw
                    case rel => exact ⟨a1, mid, lm2, _, fl, d5, rfl, rfl, rfl, rfl, rfl, hlm2, by omega, hF5, h5, (hk3.trans k4).trans k5⟩
                    case measure => simp [intOf]; omega
                · have gq : decide ((0 : Int) < (a1 : Int)) = true := decide_eq_true (by omega)
                  have gqN : decide (0 < a1) = true := decide_eq_true (by omega)
                  have s2 : a1 - 1 < n := by omega
                  cases hl : ltInt (G (a1 - 1)) (G pv2)
                  · obtain ⟨p, hp⟩ : ∃ p, Hid (dk3[pv2]! = p) := ⟨_, rfl⟩
                    have hle : Hid (p ≤ dk3[a1 - 1]!) := by
                      rw [Hid, ← hp.out, ← HG.out, ← HG.out]
                      simpa [ltInt] using hl
                    go_wp2_with fail
                    go_quiet (first | (go_at_call 49; refine Calls.quiet_of_same (lessB_any _ _ _)))
                    generalize hW : wc.drewN nq = wt
                    replace hh3 : Hb g off dk3 wt := by rw [← hW]; exact hh3.drewN _
                    replace hk3 : Kg g w wt := by rw [← hW]; exact Kg.drewN hk3 _
                    clear hW hc hf
                    go_wp2_with fail
                    refine (partEqB_any g off cap a1 b1 n pv2 p dk3 _ hh3 hdk3 (by omega) (by omega) hs q1 q2 hp).mono ?_
                    rintro e w4 ⟨mid, d4, rfl, he, h4, k4⟩
                    have m1 := he.le
                    have m2 := he.lt
                    have hF5 : Hid (Fit a b d mid b1 d4) := hF3.out.eqs (by omega) hle.out he
                    go_wp2_with fail
                    go_roundw
                    case rel => exact ⟨mid, b1, lm2, bal, part, d4, rfl, rfl, rfl, rfl, rfl, hlm2, by omega, hF5, h4, hk3.trans k4⟩
                    case measure => simp [intOf]; omega
                  · go_wp2_with fail
                    go_quiet (first | (go_at_call 49; refine Calls.quiet_of_same (lessB_any _ _ _)))
                    generalize hW : wc.drewN nq = wt
                    replace hh3 : Hb g off dk3 wt := by rw [← hW]; exact hh3.drewN _
                    replace hk3 : Kg g w wt := by rw [← hW]; exact Kg.drewN hk3 _
                    clear hW hc hf
                    clear hl
                    obtain ⟨p, hp⟩ : ∃ p, Hid (dk3[pv2]! = p) := ⟨_, rfl⟩
                    go_wp2_with fail
                    refine (partB_any g off cap a1 b1 n pv2 p dk3 _ hh3 hdk3 (by omega) (by omega) hs q1 q2 hp).mono ?_
                    rintro e w4 ⟨mid, fl, d4, rfl, hr, h4, k4⟩
                    have m1 := hr.le
                    have m2 := hr.lt
                    have hd4 : d4.size = n := hr.sz.trans hdk3
                    have hg4 : g < w4.heap.size := Nat.lt_of_lt_of_le hg (hk3.trans k4).size
                    by_cases hlr : mid - a1 < b1 - mid
                    · go_wp2_with fail
                      refine (HIH.out a1 mid lm2 (by omega) d4 _ h4 hg4 hd4 m1 (by omega) hlm2 (hr.bwL hF3.out.bw (by omega))).mono ?_
                      rintro e w5 ⟨rfl, d5, hp5, hs5, h5, k5⟩
                      have hF5 : Hid (Fit a b d (mid + 1) b1 d5) := hF3.out.left hr hp5 hs5
                      go_wp2_with fail
                      go_roundw
                      case rel => exact ⟨mid + 1, b1, lm2, _, fl, d5, by go_num, rfl, rfl, rfl, rfl, hlm2, by omega, hF5, h5, (hk3.trans k4).trans k5⟩
                      case measure => simp [intOf]; omega
                    · go_wp2_with fail
                      rw [show (mid : Int) + 1 = ((mid + 1 : Nat) : Int) from by omega]
                      refine (HIH.out (mid + 1) b1 lm2 (by omega) d4 _ h4 hg4 hd4 (by omega) (by omega) hlm2 hr.bwR).mono ?_
                      rintro e w5 ⟨rfl, d5, hp5, hs5, h5, k5⟩
                      have hF5 : Hid (Fit a b d a1 mid d5) := hF3.out.right hr hp5 hs5
                      go_wp2_with fail
                      go_roundw
                      case rel => exact ⟨a1, mid, lm2, _, fl, d5, rfl, rfl, rfl, rfl, rfl, hlm2, by omega, hF5, h5, (hk3.trans k4).trans k5⟩
                      case measure => simp [intOf]; omega
              · go_wp2_with fail
                refine (partInsB_any g off cap a1 b1 n dk3 _ hh3 hdk3 (by omega) (by omega) hs).mono ?_
                rintro e w4 ⟨fl4, rfl, hfl, h4, k4⟩
                cases fl4
                · clear hfl hh3
                  have hh3 := h4
                  replace hk3 := hk3.trans k4
                  clear h4 k4
                  obtain ⟨G, HG, hc, hf⟩ := hh3.fam hdk3
                  have s1 : pv2 < n := by omega
                  by_cases ha0 : a1 = 0
                  · have gq : decide ((0 : Int) < (a1 : Int)) = false := decide_eq_false (by omega)
                    have gqN : decide (0 < a1) = false := decide_eq_false (by omega)
                    clear ha0
                    go_wp2_with fail
                    go_quiet (first | (go_at_call 49; refine Calls.quiet_of_same (lessB_any _ _ _)))
                    generalize hW : w4.drewN nq = wt
                    replace hh3 : Hb g off dk3 wt := by rw [← hW]; exact hh3.drewN _
                    replace hk3 : Kg g w wt := by rw [← hW]; exact Kg.drewN hk3 _
                    clear hW hc hf
                    obtain ⟨p, hp⟩ : ∃ p, Hid (dk3[pv2]! = p) := ⟨_, rfl⟩
                    go_wp2_with fail
                    refine (partB_any g off cap a1 b1 n pv2 p dk3 _ hh3 hdk3 (by omega) (by omega) hs q1 q2 hp).mono ?_
                    rintro e w4 ⟨mid, fl, d4, rfl, hr, h4, k4⟩
                    have m1 := hr.le
                    have m2 := hr.lt
                    have hd4 : d4.size = n := hr.sz.trans hdk3
                    have hg4 : g < w4.heap.size := Nat.lt_of_lt_of_le hg (hk3.trans k4).size
                    by_cases hlr : mid - a1 < b1 - mid
                    · go_wp2_with fail
                      refine (HIH.out a1 mid lm2 (by omega) d4 _ h4 hg4 hd4 m1 (by omega) hlm2 (hr.bwL hF3.out.bw (by omega))).mono ?_
                      rintro e w5 ⟨rfl, d5, hp5, hs5, h5, k5⟩
                      have hF5 : Hid (Fit a b d (mid + 1) b1 d5) := hF3.out.left hr hp5 hs5
                      go_wp2_with fail
                      go_roundw
                      case rel => exact ⟨mid + 1, b1, lm2, _, fl, d5, by go_num, rfl, rfl, rfl, rfl, hlm2, by omega, hF5, h5, (hk3.trans k4).trans k5⟩
                      case measure => simp [intOf]; omega
                    · go_wp2_with fail
                      rw [show (mid : Int) + 1 = ((mid + 1 : Nat) : Int) from by omega]
                      refine (HIH.out (mid + 1) b1 lm2 (by omega) d4 _ h4 hg4 hd4 (by omega) (by omega) hlm2 hr.bwR).mono ?_
                      rintro e w5 ⟨rfl, d5, hp5, hs5, h5, k5⟩
                      have hF5 : Hid (Fit a b d a1 mid d5) := hF3.out.right hr hp5 hs5
                      go_wp2_with fail
                      go_roundw
                      case rel => exact ⟨a1, mid, lm2, _, fl, d5, rfl, rfl, rfl, rfl, rfl, hlm2, by omega, hF5, h5, (hk3.trans k4).trans k5⟩
                      case measure => simp [intOf]; omega
                  · have gq : decide ((0 : Int) < (a1 : Int)) = true := decide_eq_true (by omega)
                    have gqN : decide (0 < a1) = true := decide_eq_true (by omega)
                    have s2 : a1 - 1 < n := by omega
                    cases hl : ltInt (G (a1 - 1)) (G pv2)
                    · obtain ⟨p, hp⟩ : ∃ p, Hid (dk3[pv2]! = p) := ⟨_, rfl⟩
                      have hle : Hid (p ≤ dk3[a1 - 1]!) := by
                        rw [Hid, ← hp.out, ← HG.out, ← HG.out]
                        simpa [ltInt] using hl
                      go_wp2_with fail
                      go_quiet (first | (go_at_call 49; refine Calls.quiet_of_same (lessB_any _ _ _)))
                      generalize hW : w4.drewN nq = wt
                      replace hh3 : Hb g off dk3 wt := by rw [← hW]; exact hh3.drewN _
                      replace hk3 : Kg g w wt := by rw [← hW]; exact Kg.drewN hk3 _
                      clear hW hc hf
                      go_wp2_with fail
                      refine (partEqB_any g off cap a1 b1 n pv2 p dk3 _ hh3 hdk3 (by omega) (by omega) hs q1 q2 hp).mono ?_
                      rintro e w4 ⟨mid, d4, rfl, he, h4, k4⟩
                      have m1 := he.le
                      have m2 := he.lt
                      have hF5 : Hid (Fit a b d mid b1 d4) := hF3.out.eqs (by omega) hle.out he
                      go_wp2_with fail
                      go_roundw
                      case rel => exact ⟨mid, b1, lm2, bal, part, d4, rfl, rfl, rfl, rfl, rfl, hlm2, by omega, hF5, h4, hk3.trans k4⟩
                      case measure => simp [intOf]; omega
                    · go_wp2_with fail
                      go_quiet (first | (go_at_call 49; refine Calls.quiet_of_same (lessB_any _ _ _)))
                      generalize hW : w4.drewN nq = wt
                      replace hh3 : Hb g off dk3 wt := by rw [← hW]; exact hh3.drewN _
                      replace hk3 : Kg g w wt := by rw [← hW]; exact Kg.drewN hk3 _
                      clear hW hc hf
                      clear hl
                      obtain ⟨p, hp⟩ : ∃ p, Hid (dk3[pv2]! = p) := ⟨_, rfl⟩
                      go_wp2_with fail
                      refine (partB_any g off cap a1 b1 n pv2 p dk3 _ hh3 hdk3 (by omega) (by omega) hs q1 q2 hp).mono ?_
                      rintro e w4 ⟨mid, fl, d4, rfl, hr, h4, k4⟩
                      have m1 := hr.le
                      have m2 := hr.lt
                      have hd4 : d4.size = n := hr.sz.trans hdk3
                      have hg4 : g < w4.heap.size := Nat.lt_of_lt_of_le hg (hk3.trans k4).size
                      by_cases hlr : mid - a1 < b1 - mid
                      · go_wp2_with fail
                        refine (HIH.out a1 mid lm2 (by omega) d4 _ h4 hg4 hd4 m1 (by omega) hlm2 (hr.bwL hF3.out.bw (by omega))).mono ?_
                        rintro e w5 ⟨rfl, d5, hp5, hs5, h5, k5⟩
                        have hF5 : Hid (Fit a b d (mid + 1) b1 d5) := hF3.out.left hr hp5 hs5
                        go_wp2_with fail
                        go_roundw
                        case rel => exact ⟨mid + 1, b1, lm2, _, fl, d5, by go_num, rfl, rfl, rfl, rfl, hlm2, by omega, hF5, h5, (hk3.trans k4).trans k5⟩
                        case measure => simp [intOf]; omega
                      · go_wp2_with fail
                        rw [show (mid : Int) + 1 = ((mid + 1 : Nat) : Int) from by omega]
                        refine (HIH.out (mid + 1) b1 lm2 (by omega) d4 _ h4 hg4 hd4 (by omega) (by omega) hlm2 hr.bwR).mono ?_
                        rintro e w5 ⟨rfl, d5, hp5, hs5, h5, k5⟩
                        have hF5 : Hid (Fit a b d a1 mid d5) := hF3.out.right hr hp5 hs5
                        go_wp2_with fail
                        go_roundw
                        case rel => exact ⟨a1, mid, lm2, _, fl, d5, rfl, rfl, rfl, rfl, rfl, hlm2, by omega, hF5, h5, (hk3.trans k4).trans k5⟩
                        case measure => simp [intOf]; omega
                · have hfin := hF3.out.done (permIn_refl _ _ _) (hfl rfl)
                  go_wp2_with fail
                  refine bodyPost_ret (results_none rfl _ _ _) rfl ?_
                  exact ⟨rfl, _, hfin.1, hfin.2, h4, hk3.trans k4⟩

theorem sortB_all (g off cap n : Nat) (hs : n ≤ 40) : ∀ m a b lim, b - a ≤ m → SortB g off cap n a b lim := by
  intro m
  induction m with
  | zero => intro a b lim h; exact sortB_step g off cap n a b lim hs fun a2 b2 _ h2 => by omega
  | succ m ih => intro a b lim h; exact sortB_step g off cap n a b lim hs fun a2 b2 l2 h2 => ih a2 b2 l2 (by omega)
theorem SortBytes_any (g off cap n : Nat) (d : Array Int) (w : World) (h : Hb g off d w) (hg : g < w.heap.size) (hn : d.size = n) (hs : n ≤ 40) :
    Calls Try.prog 28 #[.slice (some ⟨g, off, none⟩) n cap] w fun e w' => e = .returned (.tuple #[]) ∧ ∃ d' : Array Int, PermIn 0 n d d' ∧ SortedIn ltInt 0 n d' ∧ Hb g off d' w' ∧ Kg g w w' := by
  go_enter Try.func28, Try.ntmps28
  go_wp2_with fail
  refine (len_any n hs _).mono ?_
  rintro e w2 ⟨rfl, rfl⟩
  go_wp2_with fail
  refine (sortB_all g off cap n hs n 0 n (blen n) (by omega) d _ h hg hn (by omega) (Nat.le_refl _) (by have := blen_le n; omega) (.inl rfl)).mono ?_
  rintro e w2 ⟨rfl, hd⟩
  go_wp2_with fail
  go_end0
  exact ⟨rfl, hd⟩

end Go.Proofs.Ytcfbnlkkoifiiaa
