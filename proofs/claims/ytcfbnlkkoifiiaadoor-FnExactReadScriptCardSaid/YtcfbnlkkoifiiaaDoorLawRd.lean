/-
  The walk of the law on a script that is read.
-/
import Derived.Test.YtcfbnlkkoifiiaaDoorRdB
import Derived.Test.YtcfbnlkkoifiiaaDoorRdC
import Derived.Test.YtcfbnlkkoifiiaaDoorMkC
import Derived.Test.YtcfbnlkkoifiiaaDoorScC
import Derived.Test.YtcfbnlkkoifiiaaDoorBRmk
namespace Go.Proofs.YtcfbnlkkoifiiaaDoor
set_option maxRecDepth 100000
open Go.RowKit
set_option linter.unusedVariables false

theorem ap_of {A B : Option Addr} {n c m d : Nat} (h : ∀ a b, A = some a → B = some b → a.block ≠ b.block) : (Value.slice B m d).ownBlock = none ∨ (Value.slice B m d).ownBlock ≠ (Value.slice A n c).ownBlock := by
  cases B with
  | none => exact .inl rfl
  | some b =>
    cases A with
    | none => exact .inr (by simp [Value.ownBlock])
    | some a => exact .inr (by simp [Value.ownBlock]; exact (h a b rfl rfl).symm)

set_option maxHeartbeats 8000000 in
set_option maxRecDepth 100000 in
theorem readScript_walk (s : ByteArray) (w : World) (_hq : s.size ≤ maxLen) (hT : Tab w) (hM : Mx w) (hS : Sent w) :
    Calls Tryd.prog 3 #[.string s] w fun e w' => e = .returned (.bool true) ∧ Below w.heap.size w w' := by
  unfold maxLen at _hq
  by_cases hs : s.size ≤ 1048576
  · obtain ⟨h60, h60b, h20⟩ := rdAll_len s
    obtain ⟨sw, HSW⟩ : ∃ sw, Hid (sw = (rdAll s).1) := ⟨_, rfl⟩
    obtain ⟨aw, HAW⟩ : ∃ aw, Hid (aw = (rdAll s).2.1) := ⟨_, rfl⟩
    obtain ⟨mw, HMW⟩ : ∃ mw, Hid (mw = (rdAll s).2.2) := ⟨_, rfl⟩
    obtain ⟨cdw, HCW⟩ : ∃ cdw, Hid (cdw = rdCode s) := ⟨_, rfl⟩
    have hls : sw.length ≤ 60 := by rw [HSW.out]; exact h60
    have hla : aw.length ≤ 60 := by rw [HAW.out]; exact h60b
    have hlm : mw.length ≤ 20 := by rw [HMW.out]; exact h20
    clear h60 h60b h20
    go_enter Tryd.func3, Tryd.ntmps3
    go_wp2_with fail
    refine (specReadScript_any s w hs).mono ?_
    rintro r w1 ⟨Aw, cw, Bw, dw, Rw, rw, rfl, vw1, vw2, vw3, -, -, -, hb1⟩
    rw [← HSW.out] at vw1 ⊢
    rw [← HAW.out] at vw2 ⊢
    rw [← HMW.out] at vw3 ⊢
    rw [← HCW.out]
    have Q1 := hb1
    go_wp2_with fail
    have bq := below_alloc w1 (.cells #[.slice Aw sw.length cw, .slice Bw aw.length dw] 25)
    have Q2 := below_step Q1 bq
    have wc0 : (w1.alloc (.cells #[.slice Aw sw.length cw, .slice Bw aw.length dw] 25)).cell? ⟨w1.heap.size, 0, none⟩ = some (.slice Aw sw.length cw) := by simp [go_sem]
    have wc1 : (w1.alloc (.cells #[.slice Aw sw.length cw, .slice Bw aw.length dw] 25)).cell? ⟨w1.heap.size, 1, none⟩ = some (.slice Bw aw.length dw) := by simp [go_sem]
    replace vw1 := vw1.below bq
    replace vw2 := vw2.below bq
    replace vw3 := vw3.below bq
    clear bq
    generalize Ex2 : w1.heap.size = x2 at wc0 wc1 ⊢
    have hx2 := Lib.hid Ex2
    clear Ex2
    generalize w1.alloc (.cells #[.slice Aw sw.length cw, .slice Bw aw.length dw] 25) = w2 at Q2 wc0 wc1 vw1 vw2 vw3 ⊢
    have hx2b := Lib.hid (World.block_lt_of_cell? _ _ wc0)
    refine (implReadScript_any s w2 hs (hM.below Q2) (hT.below Q2) (hS.below Q2)).mono ?_
    rintro r w3 ⟨Ag, cg, Bg, dg, Rg, rg, rfl, vg1, vg2, vg3, n12, n13, n23, hb3⟩
    rw [← HSW.out] at vg1 ⊢
    rw [← HAW.out] at vg2 ⊢
    rw [← HMW.out] at vg3 ⊢
    rw [← HCW.out]
    have X11 := Own.ap vw1 vg1 (Nat.le_refl _)
    have X12 := Own.ap vw1 vg2 (Nat.le_refl _)
    have X13 := Own.ap vw1 vg3 (Nat.le_refl _)
    have X21 := Own.ap vw2 vg1 (Nat.le_refl _)
    have X22 := Own.ap vw2 vg2 (Nat.le_refl _)
    have X23 := Own.ap vw2 vg3 (Nat.le_refl _)
    have X31 := Own.ap vw3 vg1 (Nat.le_refl _)
    have X32 := Own.ap vw3 vg2 (Nat.le_refl _)
    have X33 := Own.ap vw3 vg3 (Nat.le_refl _)
    have Q3 := below_step Q2 hb3
    replace wc0 := (hb3.cell (World.block_lt_of_cell? _ _ wc0)).trans wc0
    replace wc1 := (hb3.cell (World.block_lt_of_cell? _ _ wc1)).trans wc1
    replace vw1 := vw1.below hb3
    replace vw2 := vw2.below hb3
    replace vw3 := vw3.below hb3
    have L1 := Lib.hid vg1.lt
    have L2 := Lib.hid vg2.lt
    have L3 := Lib.hid vg3.lt
    have N12 := Lib.hid n12
    have N13 := Lib.hid n13
    have N23 := Lib.hid n23
    clear n12 n13 n23
    have wc0a := cell_al wc0
    have wc1a := cell_al wc1
    go_wp2_with fail
    clear wc0a wc1a
    have bq := below_alloc w3 (.cells #[.slice Ag sw.length cg, .slice Bg aw.length dg] 25)
    have Q4 := below_step Q3 bq
    have gc0 : (w3.alloc (.cells #[.slice Ag sw.length cg, .slice Bg aw.length dg] 25)).cell? ⟨w3.heap.size, 0, none⟩ = some (.slice Ag sw.length cg) := by simp [go_sem]
    have gc1 : (w3.alloc (.cells #[.slice Ag sw.length cg, .slice Bg aw.length dg] 25)).cell? ⟨w3.heap.size, 1, none⟩ = some (.slice Bg aw.length dg) := by simp [go_sem]
    replace wc0 := (bq.cell (World.block_lt_of_cell? _ _ wc0)).trans wc0
    replace wc1 := (bq.cell (World.block_lt_of_cell? _ _ wc1)).trans wc1
    replace vw1 := vw1.below bq
    replace vw2 := vw2.below bq
    replace vw3 := vw3.below bq
    replace vg1 := vg1.below bq
    replace vg2 := vg2.below bq
    replace vg3 := vg3.below bq
    clear bq
    generalize Ex4 : w3.heap.size = x4 at gc0 gc1 ⊢
    have hx4 := Lib.hid Ex4
    clear Ex4
    generalize w3.alloc (.cells #[.slice Ag sw.length cg, .slice Bg aw.length dg] 25) = w4 at Q4 wc0 wc1 gc0 gc1 vw1 vw2 vw3 vg1 vg2 vg3 ⊢
    refine (eqScript_any _ _ _ sw _ _ _ aw _ _ _ sw _ _ _ aw _ (vg1.sl eS_len) (vg2.sl eAct_len) (vw1.sl eS_len) (vw2.sl eAct_len) (by omega) (by omega) (by omega) (by omega)).mono ?_
    rintro r w5 ⟨rfl, hbE⟩
    have Q5 := below_step Q4 hbE
    replace wc0 := (hbE.cell (World.block_lt_of_cell? _ _ wc0)).trans wc0
    replace wc1 := (hbE.cell (World.block_lt_of_cell? _ _ wc1)).trans wc1
    replace gc0 := (hbE.cell (World.block_lt_of_cell? _ _ gc0)).trans gc0
    replace gc1 := (hbE.cell (World.block_lt_of_cell? _ _ gc1)).trans gc1
    replace vw1 := vw1.below hbE
    replace vw2 := vw2.below hbE
    replace vw3 := vw3.below hbE
    replace vg1 := vg1.below hbE
    replace vg2 := vg2.below hbE
    replace vg3 := vg3.below hbE
    clear hbE
    rw [decide_eq_true (⟨rfl, rfl⟩ : sw = sw ∧ aw = aw)]
    go_wp2_with fail
    refine (eqRemarkS_any _ _ _ mw _ _ _ mw _ (vg3.sl e2_len) (by omega) (vw3.sl e2_len) (by omega)).mono ?_
    rintro r w6 ⟨rfl, hbE⟩
    have Q6 := below_step Q5 hbE
    replace wc0 := (hbE.cell (World.block_lt_of_cell? _ _ wc0)).trans wc0
    replace wc1 := (hbE.cell (World.block_lt_of_cell? _ _ wc1)).trans wc1
    replace gc0 := (hbE.cell (World.block_lt_of_cell? _ _ gc0)).trans gc0
    replace gc1 := (hbE.cell (World.block_lt_of_cell? _ _ gc1)).trans gc1
    replace vw1 := vw1.below hbE
    replace vw2 := vw2.below hbE
    replace vw3 := vw3.below hbE
    replace vg1 := vg1.below hbE
    replace vg2 := vg2.below hbE
    replace vg3 := vg3.below hbE
    clear hbE
    rw [decide_eq_true (rfl : mw = mw)]
    go_wp2_with fail
    refine (markScript_any Ag _ cg _ sw Bg _ dg _ aw 1 _ vg1 vg2 (ap_of N12.out) (by omega) (by omega) (by omega) (by omega)).mono ?_
    rintro r w7 ⟨rfl, gm1, gm2, wm, gr1, gr2⟩
    have l1 := vg1.lt
    have l2 := vg2.lt
    have l3 := vg3.lt
    have hx2p := hx2b.out
    have hx4p := hx4.out
    have s3 := hb3.size
    have Q7 := (Q6.grown gr1 Q6.size (fun q hq => by have := (l1 q hq).1; have := Q2.size; omega)).grown gr2 (Nat.le_trans Q6.size gr1.size) (fun q hq => by have := (l2 q hq).1; have := Q2.size; omega)
    replace wc0 := gr2.cell (gr1.cell wc0 (fun e => by have := (l1 _ e.symm).1; simp at this; omega)) (fun e => by have := (l2 _ e.symm).1; simp at this; omega)
    replace wc1 := gr2.cell (gr1.cell wc1 (fun e => by have := (l1 _ e.symm).1; simp at this; omega)) (fun e => by have := (l2 _ e.symm).1; simp at this; omega)
    replace gc0 := gr2.cell (gr1.cell gc0 (fun e => by have q1 : x4 < w3.heap.size := (L1.out _ e.symm).2; omega)) (fun e => by have q1 : x4 < w3.heap.size := (L2.out _ e.symm).2; omega)
    replace gc1 := gr2.cell (gr1.cell gc1 (fun e => by have q1 : x4 < w3.heap.size := (L1.out _ e.symm).2; omega)) (fun e => by have q1 : x4 < w3.heap.size := (L2.out _ e.symm).2; omega)
    replace vw1 := (vw1.grown gr1 X11).grown gr2 X12
    replace vw2 := (vw2.grown gr1 X21).grown gr2 X22
    replace vw3 := (vw3.grown gr1 X31).grown gr2 X32
    replace vg3 := (vg3.grown gr1 (ap_of (fun a b ha hb => (N13.out a b ha hb).symm))).grown gr2 (ap_of (fun a b ha hb => (N23.out a b ha hb).symm))
    clear vg1 vg2
    go_wp2_with fail
    refine (markRemarkS_any Rg _ rg _ (1 + sw.length + aw.length * 4) mw _ vg3 (by omega) (by omega) (by omega)).mono ?_
    rintro r w8 ⟨rfl, gm3, gr3⟩
    have Q8 := Q7.grown gr3 Q7.size (fun q hq => by have := (l3 q hq).1; have := Q2.size; omega)
    replace wc0 := gr3.cell wc0 (fun e => by have := (l3 _ e.symm).1; simp at this; omega)
    replace wc1 := gr3.cell wc1 (fun e => by have := (l3 _ e.symm).1; simp at this; omega)
    replace gc0 := gr3.cell gc0 (fun e => by have q1 : x4 < w3.heap.size := (L3.out _ e.symm).2; omega)
    replace gc1 := gr3.cell gc1 (fun e => by have q1 : x4 < w3.heap.size := (L3.out _ e.symm).2; omega)
    replace vw1 := vw1.grown gr3 X13
    replace vw2 := vw2.grown gr3 X23
    replace vw3 := vw3.grown gr3 X33
    replace gm1 := gm1.grown gr3 (ap_sym (ap_of (fun a b ha hb => (N13.out a b ha hb).symm)))
    replace gm2 := gm2.grown gr3 (ap_sym (ap_of (fun a b ha hb => (N23.out a b ha hb).symm)))
    clear vg3 l1 l2 l3
    have hp2 : ¬ ((1 : Int) + sw.length + aw.length * 4) < 0 := by omega
    have hp3 : ¬ ((1 : Int) + sw.length + aw.length * 4 + mw.length * 2) < 0 := by omega
    go_wp2_with fail
    refine (heldScript_any Ag _ cg Bg _ dg 1 _ (gm1.sl eS_len) (gm2.sl eAct_len) (by omega) (by omega) (by omega) (by omega)).mono ?_
    rintro r w9 ⟨rfl, hbH⟩
    have Q9 := below_step Q8 hbH
    replace wc0 := (hbH.cell (World.block_lt_of_cell? _ _ wc0)).trans wc0
    replace wc1 := (hbH.cell (World.block_lt_of_cell? _ _ wc1)).trans wc1
    replace gc0 := (hbH.cell (World.block_lt_of_cell? _ _ gc0)).trans gc0
    replace gc1 := (hbH.cell (World.block_lt_of_cell? _ _ gc1)).trans gc1
    replace vw1 := vw1.below hbH
    replace vw2 := vw2.below hbH
    replace vw3 := vw3.below hbH
    replace gm1 := gm1.below hbH
    replace gm2 := gm2.below hbH
    replace gm3 := gm3.below hbH
    clear hbH
    go_wp2_with fail
    refine (heldRemarkS_any Rg _ rg (1 + sw.length + aw.length * 4) _ (gm3.sl e2_len) (by omega) (by omega) (by omega)).mono ?_
    rintro r _ ⟨rfl, rfl⟩
    go_wp2_with fail
    refine (implReadScript_any s w9 hs (hM.below Q9) (hT.below Q9) (hS.below Q9)).mono ?_
    rintro r w10 ⟨Ah, ch, Bh, dh, Rh, rh, rfl, vh1, vh2, vh3, -, -, -, hb10⟩
    rw [← HSW.out] at vh1 ⊢
    rw [← HAW.out] at vh2 ⊢
    rw [← HMW.out] at vh3 ⊢
    rw [← HCW.out]
    have Q10 := below_step Q9 hb10
    replace wc0 := (hb10.cell (World.block_lt_of_cell? _ _ wc0)).trans wc0
    replace wc1 := (hb10.cell (World.block_lt_of_cell? _ _ wc1)).trans wc1
    replace gc0 := (hb10.cell (World.block_lt_of_cell? _ _ gc0)).trans gc0
    replace gc1 := (hb10.cell (World.block_lt_of_cell? _ _ gc1)).trans gc1
    replace vw1 := vw1.below hb10
    replace vw2 := vw2.below hb10
    replace vw3 := vw3.below hb10
    replace gm1 := gm1.below hb10
    replace gm2 := gm2.below hb10
    replace gm3 := gm3.below hb10
    have wc0a := cell_al wc0
    have wc1a := cell_al wc1
    have gc0a := cell_al gc0
    have gc1a := cell_al gc1
    go_wp2_with fail
    clear wc0a wc1a gc0a gc1a
    have bq := below_alloc w10 (.cells #[.slice Ah sw.length ch, .slice Bh aw.length dh] 25)
    have Q11 := below_step Q10 bq
    have hc0 : (w10.alloc (.cells #[.slice Ah sw.length ch, .slice Bh aw.length dh] 25)).cell? ⟨w10.heap.size, 0, none⟩ = some (.slice Ah sw.length ch) := by simp [go_sem]
    have hc1 : (w10.alloc (.cells #[.slice Ah sw.length ch, .slice Bh aw.length dh] 25)).cell? ⟨w10.heap.size, 1, none⟩ = some (.slice Bh aw.length dh) := by simp [go_sem]
    replace wc0 := (bq.cell (World.block_lt_of_cell? _ _ wc0)).trans wc0
    replace wc1 := (bq.cell (World.block_lt_of_cell? _ _ wc1)).trans wc1
    replace gc0 := (bq.cell (World.block_lt_of_cell? _ _ gc0)).trans gc0
    replace gc1 := (bq.cell (World.block_lt_of_cell? _ _ gc1)).trans gc1
    replace vw1 := vw1.below bq
    replace vw2 := vw2.below bq
    replace vw3 := vw3.below bq
    replace gm1 := gm1.below bq
    replace gm2 := gm2.below bq
    replace gm3 := gm3.below bq
    replace vh1 := vh1.below bq
    replace vh2 := vh2.below bq
    replace vh3 := vh3.below bq
    clear bq
    generalize Ex11 : w10.heap.size = x11 at hc0 hc1 ⊢
    have hx11 := Lib.hid Ex11
    clear Ex11
    generalize w10.alloc (.cells #[.slice Ah sw.length ch, .slice Bh aw.length dh] 25) = w11 at Q11 wc0 wc1 gc0 gc1 hc0 hc1 vw1 vw2 vw3 gm1 gm2 gm3 vh1 vh2 vh3 ⊢
    refine (eqScript_any _ _ _ sw _ _ _ aw _ _ _ sw _ _ _ aw _ (vh1.sl eS_len) (vh2.sl eAct_len) (vw1.sl eS_len) (vw2.sl eAct_len) (by omega) (by omega) (by omega) (by omega)).mono ?_
    rintro r w12 ⟨rfl, hbE⟩
    have Q12 := below_step Q11 hbE
    replace wc0 := (hbE.cell (World.block_lt_of_cell? _ _ wc0)).trans wc0
    replace wc1 := (hbE.cell (World.block_lt_of_cell? _ _ wc1)).trans wc1
    replace gc0 := (hbE.cell (World.block_lt_of_cell? _ _ gc0)).trans gc0
    replace gc1 := (hbE.cell (World.block_lt_of_cell? _ _ gc1)).trans gc1
    replace hc0 := (hbE.cell (World.block_lt_of_cell? _ _ hc0)).trans hc0
    replace hc1 := (hbE.cell (World.block_lt_of_cell? _ _ hc1)).trans hc1
    replace vw1 := vw1.below hbE
    replace vw2 := vw2.below hbE
    replace vw3 := vw3.below hbE
    replace gm1 := gm1.below hbE
    replace gm2 := gm2.below hbE
    replace gm3 := gm3.below hbE
    replace vh1 := vh1.below hbE
    replace vh2 := vh2.below hbE
    replace vh3 := vh3.below hbE
    clear hbE
    rw [decide_eq_true (⟨rfl, rfl⟩ : sw = sw ∧ aw = aw)]
    go_wp2_with fail
    refine (eqRemarkS_any _ _ _ mw _ _ _ mw _ (vh3.sl e2_len) (by omega) (vw3.sl e2_len) (by omega)).mono ?_
    rintro r w13 ⟨rfl, hbE⟩
    have Q13 := below_step Q12 hbE
    replace wc0 := (hbE.cell (World.block_lt_of_cell? _ _ wc0)).trans wc0
    replace wc1 := (hbE.cell (World.block_lt_of_cell? _ _ wc1)).trans wc1
    replace gc0 := (hbE.cell (World.block_lt_of_cell? _ _ gc0)).trans gc0
    replace gc1 := (hbE.cell (World.block_lt_of_cell? _ _ gc1)).trans gc1
    replace hc0 := (hbE.cell (World.block_lt_of_cell? _ _ hc0)).trans hc0
    replace hc1 := (hbE.cell (World.block_lt_of_cell? _ _ hc1)).trans hc1
    replace vw1 := vw1.below hbE
    replace vw2 := vw2.below hbE
    replace vw3 := vw3.below hbE
    replace gm1 := gm1.below hbE
    replace gm2 := gm2.below hbE
    replace gm3 := gm3.below hbE
    replace vh1 := vh1.below hbE
    replace vh2 := vh2.below hbE
    replace vh3 := vh3.below hbE
    clear hbE
    rw [decide_eq_true (rfl : mw = mw)]
    go_wp2_with fail
    refine (heldScript_any Ag _ cg Bg _ dg 1 _ (gm1.sl eS_len) (gm2.sl eAct_len) (by omega) (by omega) (by omega) (by omega)).mono ?_
    rintro r w14 ⟨rfl, hbH⟩
    have Q14 := below_step Q13 hbH
    replace wc0 := (hbH.cell (World.block_lt_of_cell? _ _ wc0)).trans wc0
    replace wc1 := (hbH.cell (World.block_lt_of_cell? _ _ wc1)).trans wc1
    replace gc0 := (hbH.cell (World.block_lt_of_cell? _ _ gc0)).trans gc0
    replace gc1 := (hbH.cell (World.block_lt_of_cell? _ _ gc1)).trans gc1
    replace hc0 := (hbH.cell (World.block_lt_of_cell? _ _ hc0)).trans hc0
    replace hc1 := (hbH.cell (World.block_lt_of_cell? _ _ hc1)).trans hc1
    replace vw1 := vw1.below hbH
    replace vw2 := vw2.below hbH
    replace vw3 := vw3.below hbH
    replace gm1 := gm1.below hbH
    replace gm2 := gm2.below hbH
    replace gm3 := gm3.below hbH
    replace vh1 := vh1.below hbH
    replace vh2 := vh2.below hbH
    replace vh3 := vh3.below hbH
    clear hbH
    go_wp2_with fail
    refine (heldRemarkS_any Rg _ rg (1 + sw.length + aw.length * 4) _ (gm3.sl e2_len) (by omega) (by omega) (by omega)).mono ?_
    rintro r _ ⟨rfl, rfl⟩
    go_wp2_with fail
    go_ret
    exact ⟨rfl, Q14⟩
  · go_enter Tryd.func3, Tryd.ntmps3
    go_wp2_with fail
    go_ret
    exact ⟨rfl, Below.refl _ _⟩
end Go.Proofs.YtcfbnlkkoifiiaaDoor
