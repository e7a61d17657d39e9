/-
  The walk of the law on what is never shown.
-/
import Derived.Test.YtccddejbbdciiaaNv
import Derived.Test.YtccddejbbdciiaaMkC
import Derived.Test.YtccddejbbdciiaaScC
import Derived.Deep.RegionHeld3
namespace Go.Proofs.Ytccddejbbdciiaa
open Go.RowKit
set_option linter.unusedVariables false

theorem nvVal_len (ss : List ByteArray) (xs : List AX) : (nvVal ss xs).length ≤ ss.length := by
  unfold nvVal; split
  · exact List.length_filter_le _ _
  · simp
set_option maxHeartbeats 4000000 in
set_option maxRecDepth 100000 in
theorem neverShown_walk (A0 : Option Addr) (n0 c0 : Nat) (s0 : List ByteArray) (B0 : Option Addr) (m0 d0 : Nat) (x0 : List (Int × ByteArray × ByteArray × Int)) (w : World) (N0 : n0 ≤ maxLen) (M0 : m0 ≤ maxLen) (S0 : Sl w 1 eS A0 n0 s0) (T0 : Sl w 4 eAct B0 m0 x0) (Z0 : ∀ s ∈ s0, s.size ≤ maxLen) (X0 : ∀ x ∈ x0, (x.2.1.size ≤ maxLen ∧ x.2.2.1.size ≤ maxLen) ∧ In64 x.1 ∧ In64 x.2.2.2) :
    Calls Try.prog 4 #[.agg #[.slice A0 n0 c0, .slice B0 m0 d0]] w fun e w' => e = .returned (.bool true) ∧ Below w.heap.size w w' := by
  have hle := szGo_le (us := szC n0 m0 s0 x0) (show (0 : Int) ≤ 1048576 by omega)
  by_cases q0 : szGo (szC n0 m0 s0 x0) 1048576 < 0
  · have hm1 : szGo (szC n0 m0 s0 x0) 1048576 = -1 := by omega
    go_enter Try.func4, Try.ntmps4
    go_wp2_with fail
    have hW : Below w.heap.size w (w.alloc (.cells #[.slice A0 n0 c0, .slice B0 m0 d0] 25)) := below_alloc _ _
    have e00 : (w.alloc (.cells #[.slice A0 n0 c0, .slice B0 m0 d0] 25)).cell? ⟨w.heap.size, 0, none⟩ = some (.slice A0 n0 c0) := by simp [go_sem]
    have e01 : (w.alloc (.cells #[.slice A0 n0 c0, .slice B0 m0 d0] 25)).cell? ⟨w.heap.size, 1, none⟩ = some (.slice B0 m0 d0) := by simp [go_sem]
    generalize (w.alloc (.cells #[.slice A0 n0 c0, .slice B0 m0 d0] 25)) = W1 at hW e00 e01 ⊢
    refine (szScript_any A0 n0 c0 s0 B0 m0 d0 x0 1048576 _ (S0.below hW) (T0.below hW) (by omega) (by omega) N0 M0 Z0 (fun x hx => (X0 x hx).1)).mono ?_
    rintro r w3 ⟨rfl, hb3⟩
    rw [hm1]
    go_wp2_with fail
    go_ret
    exact ⟨rfl, below_step hW hb3⟩
  · have k0 := szGo_mem (us := szC n0 m0 s0 x0) (show (0 : Int) ≤ 1048576 by omega) (by omega)
    have kn0 := k0 n0 (by simp [szC, szS])
    have km0 := k0 m0 (by simp [szC, szA])
    clear k0
    obtain ⟨v0, hv0⟩ : ∃ v, v = szGo (szC n0 m0 s0 x0) 1048576 := ⟨_, rfl⟩
    rw [← hv0] at hle q0
    have HV0 := Lib.hid hv0.symm
    clear hv0
    go_enter Try.func4, Try.ntmps4
    go_wp2_with fail
    have hW : Below w.heap.size w (w.alloc (.cells #[.slice A0 n0 c0, .slice B0 m0 d0] 25)) := below_alloc _ _
    have e00 : (w.alloc (.cells #[.slice A0 n0 c0, .slice B0 m0 d0] 25)).cell? ⟨w.heap.size, 0, none⟩ = some (.slice A0 n0 c0) := by simp [go_sem]
    have e01 : (w.alloc (.cells #[.slice A0 n0 c0, .slice B0 m0 d0] 25)).cell? ⟨w.heap.size, 1, none⟩ = some (.slice B0 m0 d0) := by simp [go_sem]
    generalize (w.alloc (.cells #[.slice A0 n0 c0, .slice B0 m0 d0] 25)) = W1 at hW e00 e01 ⊢
    refine (szScript_any A0 n0 c0 s0 B0 m0 d0 x0 1048576 _ (S0.below hW) (T0.below hW) (by omega) (by omega) N0 M0 Z0 (fun x hx => (X0 x hx).1)).mono ?_
    rintro r w3 ⟨rfl, hb3⟩
    rw [HV0.out]
    replace e00 := (hb3.cell (World.block_lt_of_cell? _ _ e00)).trans e00
    replace e01 := (hb3.cell (World.block_lt_of_cell? _ _ e01)).trans e01
    have K3 := below_step hW hb3
    go_wp2_with fail
    refine (toScript_any A0 n0 c0 s0 B0 m0 d0 x0 _ (S0.below K3) (T0.below K3) (by omega) (by omega)).mono ?_; rintro r w5 ⟨g1, g2, rfl, o1lt, o11, o12, hb5⟩
    have K5 := below_step K3 hb5
    replace e00 := (hb5.cell (World.block_lt_of_cell? _ _ e00)).trans e00
    replace e01 := (hb5.cell (World.block_lt_of_cell? _ _ e01)).trans e01
    go_wp2_with fail
    refine (specNeverShown_any _ n0 n0 s0 g2 m0 x0 _ (o11.sl eS_len) (o12.sl eAct_len) (by omega) (by omega) Z0).mono ?_
    rintro r w6 ⟨Aw, nw, cw, rfl, vw, hb6⟩
    have K6 := below_step K5 hb6
    replace e00 := (hb6.cell (World.block_lt_of_cell? _ _ e00)).trans e00
    replace e01 := (hb6.cell (World.block_lt_of_cell? _ _ e01)).trans e01
    have hq6 := Lib.hid (World.block_lt_of_cell? _ _ e00)
    have lw : nw ≤ 1048577 := by have q1 := (vw.sl eS_len).1; have q2 := nvVal_len s0 x0; have q3 := S0.1; omega
    go_wp2_with fail
    refine (toScript_any A0 n0 c0 s0 B0 m0 d0 x0 _ (S0.below K6) (T0.below K6) (by omega) (by omega)).mono ?_; rintro r w7 ⟨g3, g4, rfl, o3lt, o31, o32, hb7⟩
    have K7 := below_step K6 hb7
    replace e00 := (hb7.cell (World.block_lt_of_cell? _ _ e00)).trans e00
    replace e01 := (hb7.cell (World.block_lt_of_cell? _ _ e01)).trans e01
    have Xw1 := Own.ap vw o31 (Nat.le_refl _)
    have Xw2 := Own.ap vw o32 (Nat.le_refl _)
    replace vw := vw.below hb7
    have hB3 : w.heap.size < w6.heap.size := Nat.lt_of_lt_of_le (World.block_lt_of_cell? _ _ e00) (Nat.le_refl _) |> fun h => by have := hb7.size; have := hq6.out; omega
    have e00' := cell_al e00
    have e01' := cell_al e01
    go_wp2_with fail
    clear e00' e01'
    have K8 := K7.alloc K7.size (.cells #[.slice (some ⟨g3, 0, none⟩) n0 n0, .slice (some ⟨g4, 0, none⟩) m0 m0] 31)
    have bq := below_alloc w7 (.cells #[.slice (some ⟨g3, 0, none⟩) n0 n0, .slice (some ⟨g4, 0, none⟩) m0 m0] 31)
    have y00 : (w7.alloc (.cells #[.slice (some ⟨g3, 0, none⟩) n0 n0, .slice (some ⟨g4, 0, none⟩) m0 m0] 31)).cell? ⟨w7.heap.size, 0, none⟩ = some (.slice (some ⟨g3, 0, none⟩) n0 n0) := by simp [go_sem]
    have y01 : (w7.alloc (.cells #[.slice (some ⟨g3, 0, none⟩) n0 n0, .slice (some ⟨g4, 0, none⟩) m0 m0] 31)).cell? ⟨w7.heap.size, 1, none⟩ = some (.slice (some ⟨g4, 0, none⟩) m0 m0) := by simp [go_sem]
    replace o31 := o31.below bq
    replace o32 := o32.below bq
    replace vw := vw.below bq
    replace e00 := (bq.cell (World.block_lt_of_cell? _ _ e00)).trans e00
    replace e01 := (bq.cell (World.block_lt_of_cell? _ _ e01)).trans e01
    generalize hx8 : w7.heap.size = x8 at y00 y01 ⊢
    have hx8 := Lib.hid hx8
    clear bq
    generalize w7.alloc (.cells #[.slice (some ⟨g3, 0, none⟩) n0 n0, .slice (some ⟨g4, 0, none⟩) m0 m0] 31) = w8 at K8 y00 y01 o31 o32 vw e00 e01 ⊢
    refine (implNeverShown_any _ n0 n0 s0 g4 m0 x0 _ (o31.sl eS_len) (o32.sl eAct_len) (by omega) (by omega) Z0).mono ?_
    rintro r w9 ⟨Ag, ng, cg, rfl, vg, hb9⟩
    have Xg1 := ap_sym (Own.ap o31 vg (Nat.le_refl _))
    have Xg2 := ap_sym (Own.ap o32 vg (Nat.le_refl _))
    have Xwg := Own.ap vw vg (Nat.le_refl _)
    have K9 := below_step K8 hb9
    have hB4 : w.heap.size < w8.heap.size := World.block_lt_of_cell? _ _ e00
    replace e00 := (hb9.cell (World.block_lt_of_cell? _ _ e00)).trans e00
    replace e01 := (hb9.cell (World.block_lt_of_cell? _ _ e01)).trans e01
    replace y00 := (hb9.cell (World.block_lt_of_cell? _ _ y00)).trans y00
    replace y01 := (hb9.cell (World.block_lt_of_cell? _ _ y01)).trans y01
    replace o31 := o31.below hb9
    replace o32 := o32.below hb9
    replace vw := vw.below hb9
    have lg : ng ≤ 1048577 := by have q1 := (vg.sl eS_len).1; have q2 := nvVal_len s0 x0; have q3 := S0.1; omega
    go_wp2_with fail
    refine (eqStringS_any _ _ _ _ _ _ _ _ _ (vg.sl eS_len) lg (vw.sl eS_len) lw).mono ?_
    rintro r w10 ⟨rfl, hb10⟩
    have K10 := below_step K9 hb10
    replace e00 := (hb10.cell (World.block_lt_of_cell? _ _ e00)).trans e00
    replace e01 := (hb10.cell (World.block_lt_of_cell? _ _ e01)).trans e01
    replace y00 := (hb10.cell (World.block_lt_of_cell? _ _ y00)).trans y00
    replace y01 := (hb10.cell (World.block_lt_of_cell? _ _ y01)).trans y01
    replace o31 := o31.below hb10
    replace o32 := o32.below hb10
    replace vw := vw.below hb10
    replace vg := vg.below hb10
    rw [decide_eq_true rfl]
    go_wp2_with fail
    go_region_held3 (fun w' => Below w10.heap.size w10 w' ∧ w'.cell? ⟨x8, 0, none⟩ = some (.slice (some ⟨g3, 0, none⟩) n0 n0) ∧ w'.cell? ⟨x8, 1, none⟩ = some (.slice (some ⟨g4, 0, none⟩) m0 m0) ∧ w'.cell? ⟨w.heap.size, 0, none⟩ = some (.slice A0 n0 c0) ∧ w'.cell? ⟨w.heap.size, 1, none⟩ = some (.slice B0 m0 d0))
      (first
        | exact ⟨(Below.refl _ _).drew, y00, y01, e00, e01⟩
        | assumption
        | (obtain ⟨hq1, p0, p1, p2, p3⟩ := (show Below w10.heap.size w10 _ ∧ World.cell? _ ⟨x8, 0, none⟩ = some (.slice (some ⟨g3, 0, none⟩) n0 n0) ∧ World.cell? _ ⟨x8, 1, none⟩ = some (.slice (some ⟨g4, 0, none⟩) m0 m0) ∧ World.cell? _ ⟨w.heap.size, 0, none⟩ = some (.slice A0 n0 c0) ∧ World.cell? _ ⟨w.heap.size, 1, none⟩ = some (.slice B0 m0 d0) from by assumption)
           exact ⟨below_mid hq1 hbd hq1.size, (hbd.cell (World.block_lt_of_cell? _ _ p0)).trans p0, (hbd.cell (World.block_lt_of_cell? _ _ p1)).trans p1, (hbd.cell (World.block_lt_of_cell? _ _ p2)).trans p2, (hbd.cell (World.block_lt_of_cell? _ _ p3)).trans p3⟩)
        | (obtain ⟨hq1, p0, p1, p2, p3⟩ := (show Below w10.heap.size w10 _ ∧ World.cell? _ ⟨x8, 0, none⟩ = some (.slice (some ⟨g3, 0, none⟩) n0 n0) ∧ World.cell? _ ⟨x8, 1, none⟩ = some (.slice (some ⟨g4, 0, none⟩) m0 m0) ∧ World.cell? _ ⟨w.heap.size, 0, none⟩ = some (.slice A0 n0 c0) ∧ World.cell? _ ⟨w.heap.size, 1, none⟩ = some (.slice B0 m0 d0) from by assumption)
           exact ⟨below_mid hq1 hbc hq1.size, (hbc.cell (World.block_lt_of_cell? _ _ p0)).trans p0, (hbc.cell (World.block_lt_of_cell? _ _ p1)).trans p1, (hbc.cell (World.block_lt_of_cell? _ _ p2)).trans p2, (hbc.cell (World.block_lt_of_cell? _ _ p3)).trans p3⟩)
        | trace_state)
      (first
        | (go_at_call 8; refine (toScript_any A0 n0 c0 s0 B0 m0 d0 x0 _ (S0.below (K10.trans ((show Below w10.heap.size w10 _ ∧ World.cell? _ ⟨x8, 0, none⟩ = some (.slice (some ⟨g3, 0, none⟩) n0 n0) ∧ World.cell? _ ⟨x8, 1, none⟩ = some (.slice (some ⟨g4, 0, none⟩) m0 m0) ∧ World.cell? _ ⟨w.heap.size, 0, none⟩ = some (.slice A0 n0 c0) ∧ World.cell? _ ⟨w.heap.size, 1, none⟩ = some (.slice B0 m0 d0) from by assumption).1.mono K10.size))) (T0.below (K10.trans ((show Below w10.heap.size w10 _ ∧ World.cell? _ ⟨x8, 0, none⟩ = some (.slice (some ⟨g3, 0, none⟩) n0 n0) ∧ World.cell? _ ⟨x8, 1, none⟩ = some (.slice (some ⟨g4, 0, none⟩) m0 m0) ∧ World.cell? _ ⟨w.heap.size, 0, none⟩ = some (.slice A0 n0 c0) ∧ World.cell? _ ⟨w.heap.size, 1, none⟩ = some (.slice B0 m0 d0) from by assumption).1.mono K10.size))) (by omega) (by omega)).mono ?_; rintro r wu ⟨gu, gv, rfl, oult, ou1, ou2, hbc⟩)
        | (go_at_call 11; refine (eqScript_any _ n0 n0 s0 _ m0 m0 x0 _ n0 n0 s0 _ m0 m0 x0 _ ((o31.below (show Below w10.heap.size w10 _ ∧ World.cell? _ ⟨x8, 0, none⟩ = some (.slice (some ⟨g3, 0, none⟩) n0 n0) ∧ World.cell? _ ⟨x8, 1, none⟩ = some (.slice (some ⟨g4, 0, none⟩) m0 m0) ∧ World.cell? _ ⟨w.heap.size, 0, none⟩ = some (.slice A0 n0 c0) ∧ World.cell? _ ⟨w.heap.size, 1, none⟩ = some (.slice B0 m0 d0) from by assumption).1).sl eS_len) ((o32.below (show Below w10.heap.size w10 _ ∧ World.cell? _ ⟨x8, 0, none⟩ = some (.slice (some ⟨g3, 0, none⟩) n0 n0) ∧ World.cell? _ ⟨x8, 1, none⟩ = some (.slice (some ⟨g4, 0, none⟩) m0 m0) ∧ World.cell? _ ⟨w.heap.size, 0, none⟩ = some (.slice A0 n0 c0) ∧ World.cell? _ ⟨w.heap.size, 1, none⟩ = some (.slice B0 m0 d0) from by assumption).1).sl eAct_len) (ou1.sl eS_len) (ou2.sl eAct_len) (by omega) (by omega) (by omega) (by omega)).mono ?_; rintro r wv ⟨rfl, hbd⟩))
    all_goals (
      obtain ⟨hbun, y00, y01, e00, e01⟩ := (show Below w10.heap.size w10 _ ∧ World.cell? _ ⟨x8, 0, none⟩ = some (.slice (some ⟨g3, 0, none⟩) n0 n0) ∧ World.cell? _ ⟨x8, 1, none⟩ = some (.slice (some ⟨g4, 0, none⟩) m0 m0) ∧ World.cell? _ ⟨w.heap.size, 0, none⟩ = some (.slice A0 n0 c0) ∧ World.cell? _ ⟨w.heap.size, 1, none⟩ = some (.slice B0 m0 d0) from by assumption)
      have K11 := K10.trans (hbun.mono K10.size)
      replace o31 := o31.below hbun
      replace o32 := o32.below hbun
      replace vw := vw.below hbun
      replace vg := vg.below hbun
      go_wp2_with fail
      refine (markScript_any _ n0 n0 _ s0 _ m0 m0 _ x0 1 _ o31 o32 (.inr (by simp [Value.ownBlock]; omega)) (by omega) (by omega) (by omega) (by omega)).mono ?_
      rintro r w12 ⟨rfl, _, _, wq, gr1, gr2⟩
      have b31 := (o31.lt g3 rfl).1
      have b32 := (o32.lt g4 rfl).1
      have K12 := (K11.grown gr1 K11.size (fun q hq => by have := (o31.lt q hq).1; omega)).grown gr2 (Nat.le_trans K11.size gr1.size) (fun q hq => by have := (o32.lt q hq).1; omega)
      replace vw := (vw.grown gr1 Xw1).grown gr2 Xw2
      replace vg := (vg.grown gr1 Xg1).grown gr2 Xg2
      replace e00 := gr2.cell (gr1.cell e00 (by simp [Value.ownBlock]; omega)) (by simp [Value.ownBlock]; omega)
      replace e01 := gr2.cell (gr1.cell e01 (by simp [Value.ownBlock]; omega)) (by simp [Value.ownBlock]; omega)
      have hp1 : ¬ ((1 : Int) + n0 + m0 * 4) < 0 := by omega
      go_wp2_with fail
      refine (eqStringS_any _ _ _ _ _ _ _ _ _ (vg.sl eS_len) lg (vw.sl eS_len) lw).mono ?_
      rintro r w13 ⟨rfl, hb13⟩
      have K13 := below_step K12 hb13
      replace vw := vw.below hb13
      replace vg := vg.below hb13
      replace e00 := (hb13.cell (World.block_lt_of_cell? _ _ e00)).trans e00
      replace e01 := (hb13.cell (World.block_lt_of_cell? _ _ e01)).trans e01
      rw [decide_eq_true rfl]
      go_wp2_with fail
      refine (markStringS_any Ag ng cg _ 1 _ _ vg lg (by omega) (by omega)).mono ?_
      rintro r w14 ⟨rfl, gm, gr3⟩
      have K14 := K13.grown gr3 K13.size (fun q hq => by have := (vg.lt q hq).1; omega)
      replace vw := vw.grown gr3 Xwg
      replace e00 := gr3.cell e00 (by intro e; have := (vg.lt _ e.symm).1; simp at this; omega)
      replace e01 := gr3.cell e01 (by intro e; have := (vg.lt _ e.symm).1; simp at this; omega)
      have hp2 : ¬ ((1 : Int) + ng) < 0 := by omega
      go_wp2_with fail
      refine (heldStringS_any Ag ng cg 1 _ (gm.sl eS_len) lg (by omega) (by omega)).mono ?_
      rintro r w15 ⟨rfl, hb15⟩
      have K15 := below_step K14 hb15
      replace vw := vw.below hb15
      replace gm := gm.below hb15
      replace e00 := (hb15.cell (World.block_lt_of_cell? _ _ e00)).trans e00
      replace e01 := (hb15.cell (World.block_lt_of_cell? _ _ e01)).trans e01
      go_wp2_with fail
      refine (toScript_any A0 n0 c0 s0 B0 m0 d0 x0 _ (S0.below K15) (T0.below K15) (by omega) (by omega)).mono ?_; rintro r w16 ⟨g5, g6, rfl, o5lt, o51, o52, hb16⟩
      have K16 := below_step K15 hb16
      replace vw := vw.below hb16
      replace gm := gm.below hb16
      go_wp2_with fail
      refine (implNeverShown_any _ n0 n0 s0 g6 m0 x0 _ (o51.sl eS_len) (o52.sl eAct_len) (by omega) (by omega) Z0).mono ?_
      rintro r w17 ⟨Ah, nh, ch, rfl, hv, hb17⟩
      have K17 := below_step K16 hb17
      replace vw := vw.below hb17
      replace gm := gm.below hb17
      have lh : nh ≤ 1048577 := by have q1 := (hv.sl eS_len).1; have q2 := nvVal_len s0 x0; have q3 := S0.1; omega
      go_wp2_with fail
      refine (eqStringS_any _ _ _ _ _ _ _ _ _ (hv.sl eS_len) lh (vw.sl eS_len) lw).mono ?_
      rintro r w18 ⟨rfl, hb18⟩
      have K18 := below_step K17 hb18
      replace gm := gm.below hb18
      rw [decide_eq_true rfl]
      go_wp2_with fail
      refine (heldStringS_any Ag ng cg 1 _ (gm.sl eS_len) lg (by omega) (by omega)).mono ?_
      rintro r w19 ⟨rfl, hb19⟩
      go_wp2_with fail
      go_ret
      exact ⟨rfl, below_step K18 hb19⟩)

end Go.Proofs.Ytccddejbbdciiaa
