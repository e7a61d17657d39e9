/-
  The walk of the law on a later script.
-/
import Derived.Test.YtccddejbbdciiaaSsA
import Derived.Test.YtccddejbbdciiaaSsB
import Derived.Test.YtccddejbbdciiaaMkC
import Derived.Test.YtccddejbbdciiaaScC
import Derived.Deep.RegionHeld3
namespace Go.Proofs.Ytccddejbbdciiaa
open Go.RowKit
set_option linter.unusedVariables false

theorem ap_of {A B : Option Addr} {n c m d : Nat} (h : ∀ a b, A = some a → B = some b → a.block ≠ b.block) : (Value.slice B m d).ownBlock = none ∨ (Value.slice B m d).ownBlock ≠ (Value.slice A n c).ownBlock := by
  cases B with
  | none => exact .inl rfl
  | some b =>
    cases A with
    | none => exact .inr (by simp [Value.ownBlock])
    | some a => exact .inr (by simp [Value.ownBlock]; exact (h a b rfl rfl).symm)

set_option maxHeartbeats 8000000 in
set_option maxRecDepth 100000 in
theorem shiftScript_walk (A0 : Option Addr) (n0 c0 : Nat) (s0 : List ByteArray) (B0 : Option Addr) (m0 d0 : Nat) (x0 : List (Int × ByteArray × ByteArray × Int)) (a1 : Int) (w : World) (N0 : n0 ≤ maxLen) (M0 : m0 ≤ maxLen) (S0 : Sl w 1 eS A0 n0 s0) (T0 : Sl w 4 eAct B0 m0 x0) (Z0 : ∀ s ∈ s0, s.size ≤ maxLen) (X0 : ∀ x ∈ x0, (x.2.1.size ≤ maxLen ∧ x.2.2.1.size ≤ maxLen) ∧ In64 x.1 ∧ In64 x.2.2.2) (b_1 : In64 a1) :
    Calls Try.prog 5 #[.agg #[.slice A0 n0 c0, .slice B0 m0 d0], .int .i64 a1] w fun e w' => e = .returned (.bool true) ∧ Below w.heap.size w w' := by
  have hle := szGo_le (us := szC n0 m0 s0 x0) (show (0 : Int) ≤ 1048576 by omega)
  by_cases q0 : szGo (szC n0 m0 s0 x0) 1048576 < 0
  · have hm1 : szGo (szC n0 m0 s0 x0) 1048576 = -1 := by omega
    go_enter Try.func5, Try.ntmps5
    go_wp2_with fail
    have hW : Below w.heap.size w (w.alloc (.cells #[.slice A0 n0 c0, .slice B0 m0 d0] 25)) := below_alloc _ _
    have e00 : (w.alloc (.cells #[.slice A0 n0 c0, .slice B0 m0 d0] 25)).cell? ⟨w.heap.size, 0, none⟩ = some (.slice A0 n0 c0) := by simp [go_sem]
    have e01 : (w.alloc (.cells #[.slice A0 n0 c0, .slice B0 m0 d0] 25)).cell? ⟨w.heap.size, 1, none⟩ = some (.slice B0 m0 d0) := by simp [go_sem]
    generalize (w.alloc (.cells #[.slice A0 n0 c0, .slice B0 m0 d0] 25)) = W1 at hW e00 e01 ⊢
    refine (szScript_any A0 n0 c0 s0 B0 m0 d0 x0 1048576 _ (S0.below hW) (T0.below hW) (by omega) (by omega) N0 M0 Z0 (fun x hx => (X0 x hx).1)).mono ?_
    rintro r w3 ⟨rfl, hb3⟩
    rw [hm1]
    go_wp2_with fail
    go_ret
    exact ⟨rfl, below_step hW hb3⟩
  · have k0 := szGo_mem (us := szC n0 m0 s0 x0) (show (0 : Int) ≤ 1048576 by omega) (by omega)
    have kn0 := k0 n0 (by simp [szC, szS])
    have km0 := k0 m0 (by simp [szC, szA])
    clear k0
    obtain ⟨v0, hv0⟩ : ∃ v, v = szGo (szC n0 m0 s0 x0) 1048576 := ⟨_, rfl⟩
    rw [← hv0] at hle q0
    have HV0 := Lib.hid hv0.symm
    clear hv0
    obtain ⟨sw, HSW⟩ : ∃ sw, Hid (sw = ssS s0 x0 a1) := ⟨_, rfl⟩
    obtain ⟨aw, HAW⟩ : ∃ aw, Hid (aw = ssA s0 x0 a1) := ⟨_, rfl⟩
    obtain ⟨cdw, HCW⟩ : ∃ cdw, Hid (cdw = ssCode s0 x0 a1) := ⟨_, rfl⟩
    have hls : sw.length ≤ 1048577 := by have q1 := ssS_len s0 x0 a1; have q2 := S0.1; rw [HSW.out]; omega
    have hla : aw.length ≤ 1048577 := by have q1 := ssA_len s0 x0 a1; have q2 := T0.1; rw [HAW.out]; omega
    go_enter Try.func5, Try.ntmps5
    go_wp2_with fail
    have hW : Below w.heap.size w (w.alloc (.cells #[.slice A0 n0 c0, .slice B0 m0 d0] 25)) := below_alloc _ _
    have e00 : (w.alloc (.cells #[.slice A0 n0 c0, .slice B0 m0 d0] 25)).cell? ⟨w.heap.size, 0, none⟩ = some (.slice A0 n0 c0) := by simp [go_sem]
    have e01 : (w.alloc (.cells #[.slice A0 n0 c0, .slice B0 m0 d0] 25)).cell? ⟨w.heap.size, 1, none⟩ = some (.slice B0 m0 d0) := by simp [go_sem]
    generalize (w.alloc (.cells #[.slice A0 n0 c0, .slice B0 m0 d0] 25)) = W1 at hW e00 e01 ⊢
    refine (szScript_any A0 n0 c0 s0 B0 m0 d0 x0 1048576 _ (S0.below hW) (T0.below hW) (by omega) (by omega) N0 M0 Z0 (fun x hx => (X0 x hx).1)).mono ?_
    rintro r w3 ⟨rfl, hb3⟩
    rw [HV0.out]
    have Q1 := below_step hW hb3
    replace e00 := (hb3.cell (World.block_lt_of_cell? _ _ e00)).trans e00
    replace e01 := (hb3.cell (World.block_lt_of_cell? _ _ e01)).trans e01
    go_wp2_with fail
    refine (toScript_any A0 n0 c0 s0 B0 m0 d0 x0 _ (S0.below Q1) (T0.below Q1) (by omega) (by omega)).mono ?_; rintro r w5 ⟨g1, g2, rfl, o1lt, o11, o12, hb5⟩
    have Q2 := below_step Q1 hb5
    replace e00 := (hb5.cell (World.block_lt_of_cell? _ _ e00)).trans e00
    replace e01 := (hb5.cell (World.block_lt_of_cell? _ _ e01)).trans e01
    go_wp2_with fail
    refine (specShiftScript_any _ n0 s0 _ m0 x0 a1 _ (o11.sl eS_len) (o12.sl eAct_len) (by omega) (by omega) Z0).mono ?_
    rintro r w6 ⟨Aw, cw, Bw, dw, rfl, vw1, vw2, -, hb6⟩
    rw [← HSW.out] at vw1 ⊢
    rw [← HAW.out] at vw2 ⊢
    rw [← HCW.out]
    have Q3 := below_step Q2 hb6
    replace e00 := (hb6.cell (World.block_lt_of_cell? _ _ e00)).trans e00
    replace e01 := (hb6.cell (World.block_lt_of_cell? _ _ e01)).trans e01
    have e00a := cell_al e00
    have e01a := cell_al e01
    go_wp2_with fail
    clear e00a e01a
    have bq := below_alloc w6 (.cells #[.slice Aw sw.length cw, .slice Bw aw.length dw] 31)
    have Q4 := below_step Q3 bq
    have wc0 : (w6.alloc (.cells #[.slice Aw sw.length cw, .slice Bw aw.length dw] 31)).cell? ⟨w6.heap.size, 0, none⟩ = some (.slice Aw sw.length cw) := by simp [go_sem]
    have wc1 : (w6.alloc (.cells #[.slice Aw sw.length cw, .slice Bw aw.length dw] 31)).cell? ⟨w6.heap.size, 1, none⟩ = some (.slice Bw aw.length dw) := by simp [go_sem]
    replace e00 := (bq.cell (World.block_lt_of_cell? _ _ e00)).trans e00
    replace e01 := (bq.cell (World.block_lt_of_cell? _ _ e01)).trans e01
    replace vw1 := vw1.below bq
    replace vw2 := vw2.below bq
    clear bq
    generalize Ex6 : w6.heap.size = x6 at wc0 wc1 ⊢
    have hx6 := Lib.hid Ex6
    clear Ex6
    generalize w6.alloc (.cells #[.slice Aw sw.length cw, .slice Bw aw.length dw] 31) = w6b at Q4 wc0 wc1 e00 e01 vw1 vw2 ⊢
    refine (toScript_any A0 n0 c0 s0 B0 m0 d0 x0 _ (S0.below Q4) (T0.below Q4) (by omega) (by omega)).mono ?_; rintro r w7 ⟨g3, g4, rfl, o3lt, o31, o32, hb7⟩
    have Xw1 := Own.ap vw1 o31 (Nat.le_refl _)
    have Xw2 := Own.ap vw1 o32 (Nat.le_refl _)
    have Yw1 := Own.ap vw2 o31 (Nat.le_refl _)
    have Yw2 := Own.ap vw2 o32 (Nat.le_refl _)
    have hx6b := Lib.hid (World.block_lt_of_cell? _ _ wc0)
    have hWx := Lib.hid (World.block_lt_of_cell? _ _ e00)
    have Q5 := below_step Q4 hb7
    replace e00 := (hb7.cell (World.block_lt_of_cell? _ _ e00)).trans e00
    replace e01 := (hb7.cell (World.block_lt_of_cell? _ _ e01)).trans e01
    replace wc0 := (hb7.cell (World.block_lt_of_cell? _ _ wc0)).trans wc0
    replace wc1 := (hb7.cell (World.block_lt_of_cell? _ _ wc1)).trans wc1
    replace vw1 := vw1.below hb7
    replace vw2 := vw2.below hb7
    have e00a := cell_al e00
    have e01a := cell_al e01
    go_wp2_with fail
    clear e00a e01a
    have bq := below_alloc w7 (.cells #[.slice (some ⟨g3, 0, none⟩) n0 n0, .slice (some ⟨g4, 0, none⟩) m0 m0] 31)
    have Q6 := below_step Q5 bq
    have y00 : (w7.alloc (.cells #[.slice (some ⟨g3, 0, none⟩) n0 n0, .slice (some ⟨g4, 0, none⟩) m0 m0] 31)).cell? ⟨w7.heap.size, 0, none⟩ = some (.slice (some ⟨g3, 0, none⟩) n0 n0) := by simp [go_sem]
    have y01 : (w7.alloc (.cells #[.slice (some ⟨g3, 0, none⟩) n0 n0, .slice (some ⟨g4, 0, none⟩) m0 m0] 31)).cell? ⟨w7.heap.size, 1, none⟩ = some (.slice (some ⟨g4, 0, none⟩) m0 m0) := by simp [go_sem]
    replace e00 := (bq.cell (World.block_lt_of_cell? _ _ e00)).trans e00
    replace e01 := (bq.cell (World.block_lt_of_cell? _ _ e01)).trans e01
    replace wc0 := (bq.cell (World.block_lt_of_cell? _ _ wc0)).trans wc0
    replace wc1 := (bq.cell (World.block_lt_of_cell? _ _ wc1)).trans wc1
    replace vw1 := vw1.below bq
    replace vw2 := vw2.below bq
    replace o31 := o31.below bq
    replace o32 := o32.below bq
    clear bq
    generalize Ex8 : w7.heap.size = x8 at y00 y01 ⊢
    have hx8 := Lib.hid Ex8
    clear Ex8
    generalize w7.alloc (.cells #[.slice (some ⟨g3, 0, none⟩) n0 n0, .slice (some ⟨g4, 0, none⟩) m0 m0] 31) = w8 at Q6 y00 y01 e00 e01 wc0 wc1 vw1 vw2 o31 o32 ⊢
    refine (implShiftScript_any _ n0 s0 g4 m0 x0 a1 _ (o31.sl eS_len) (o32.sl eAct_len) (by omega) (by omega) Z0).mono ?_
    rintro r w9 ⟨Ag, cg, Bg, dg, rfl, vg1, vg2, ng, hb9⟩
    rw [← HSW.out] at vg1 ⊢
    rw [← HAW.out] at vg2 ⊢
    rw [← HCW.out]
    have Xwg1 := Own.ap vw1 vg1 (Nat.le_refl _)
    have Xwg2 := Own.ap vw1 vg2 (Nat.le_refl _)
    have Ywg1 := Own.ap vw2 vg1 (Nat.le_refl _)
    have Ywg2 := Own.ap vw2 vg2 (Nat.le_refl _)
    have Xg1 := ap_sym (Own.ap o31 vg1 (Nat.le_refl _))
    have Xg2 := ap_sym (Own.ap o32 vg1 (Nat.le_refl _))
    have Yg1 := ap_sym (Own.ap o31 vg2 (Nat.le_refl _))
    have Yg2 := ap_sym (Own.ap o32 vg2 (Nat.le_refl _))
    have hx8b := Lib.hid (World.block_lt_of_cell? _ _ y00)
    have G38 := Lib.hid (o31.lt g3 rfl).2
    have G48 := Lib.hid (o32.lt g4 rfl).2
    have he8 := Lib.hid (World.block_lt_of_cell? _ _ e00)
    have hw8 := Lib.hid (World.block_lt_of_cell? _ _ wc0)
    have L1 := Lib.hid vg1.lt
    have L2 := Lib.hid vg2.lt
    have Q7 := below_step Q6 hb9
    replace e00 := (hb9.cell (World.block_lt_of_cell? _ _ e00)).trans e00
    replace e01 := (hb9.cell (World.block_lt_of_cell? _ _ e01)).trans e01
    replace wc0 := (hb9.cell (World.block_lt_of_cell? _ _ wc0)).trans wc0
    replace wc1 := (hb9.cell (World.block_lt_of_cell? _ _ wc1)).trans wc1
    replace y00 := (hb9.cell (World.block_lt_of_cell? _ _ y00)).trans y00
    replace y01 := (hb9.cell (World.block_lt_of_cell? _ _ y01)).trans y01
    replace vw1 := vw1.below hb9
    replace vw2 := vw2.below hb9
    replace o31 := o31.below hb9
    replace o32 := o32.below hb9
    have NG := Lib.hid ng
    clear ng
    have e00a := cell_al e00
    have e01a := cell_al e01
    have wc0a := cell_al wc0
    have wc1a := cell_al wc1
    have y00a := cell_al y00
    have y01a := cell_al y01
    go_wp2_with fail
    clear e00a e01a wc0a wc1a y00a y01a
    have bq := below_alloc w9 (.cells #[.slice Ag sw.length cg, .slice Bg aw.length dg] 31)
    have Q8 := below_step Q7 bq
    have gc0 : (w9.alloc (.cells #[.slice Ag sw.length cg, .slice Bg aw.length dg] 31)).cell? ⟨w9.heap.size, 0, none⟩ = some (.slice Ag sw.length cg) := by simp [go_sem]
    have gc1 : (w9.alloc (.cells #[.slice Ag sw.length cg, .slice Bg aw.length dg] 31)).cell? ⟨w9.heap.size, 1, none⟩ = some (.slice Bg aw.length dg) := by simp [go_sem]
    replace e00 := (bq.cell (World.block_lt_of_cell? _ _ e00)).trans e00
    replace e01 := (bq.cell (World.block_lt_of_cell? _ _ e01)).trans e01
    replace wc0 := (bq.cell (World.block_lt_of_cell? _ _ wc0)).trans wc0
    replace wc1 := (bq.cell (World.block_lt_of_cell? _ _ wc1)).trans wc1
    replace y00 := (bq.cell (World.block_lt_of_cell? _ _ y00)).trans y00
    replace y01 := (bq.cell (World.block_lt_of_cell? _ _ y01)).trans y01
    replace vw1 := vw1.below bq
    replace vw2 := vw2.below bq
    replace o31 := o31.below bq
    replace o32 := o32.below bq
    replace vg1 := vg1.below bq
    replace vg2 := vg2.below bq
    clear bq
    generalize Ex9 : w9.heap.size = x9 at gc0 gc1 ⊢
    have hx9 := Lib.hid Ex9
    clear Ex9
    generalize w9.alloc (.cells #[.slice Ag sw.length cg, .slice Bg aw.length dg] 31) = w9b at Q8 gc0 gc1 e00 e01 wc0 wc1 y00 y01 vw1 vw2 o31 o32 vg1 vg2 ⊢
    refine (eqScript_any _ _ _ sw _ _ _ aw _ _ _ sw _ _ _ aw _ (vg1.sl eS_len) (vg2.sl eAct_len) (vw1.sl eS_len) (vw2.sl eAct_len) hls hla hls hla).mono ?_
    rintro r w10 ⟨rfl, hb10⟩
    have Q9 := below_step Q8 hb10
    replace e00 := (hb10.cell (World.block_lt_of_cell? _ _ e00)).trans e00
    replace e01 := (hb10.cell (World.block_lt_of_cell? _ _ e01)).trans e01
    replace wc0 := (hb10.cell (World.block_lt_of_cell? _ _ wc0)).trans wc0
    replace wc1 := (hb10.cell (World.block_lt_of_cell? _ _ wc1)).trans wc1
    replace y00 := (hb10.cell (World.block_lt_of_cell? _ _ y00)).trans y00
    replace y01 := (hb10.cell (World.block_lt_of_cell? _ _ y01)).trans y01
    replace gc0 := (hb10.cell (World.block_lt_of_cell? _ _ gc0)).trans gc0
    replace gc1 := (hb10.cell (World.block_lt_of_cell? _ _ gc1)).trans gc1
    replace vw1 := vw1.below hb10
    replace vw2 := vw2.below hb10
    replace o31 := o31.below hb10
    replace o32 := o32.below hb10
    replace vg1 := vg1.below hb10
    replace vg2 := vg2.below hb10
    rw [decide_eq_true (⟨rfl, rfl⟩ : sw = sw ∧ aw = aw)]
    go_wp2_with fail
    go_region_held3 (fun w' => Below w10.heap.size w10 w' ∧ w'.cell? ⟨x8, 0, none⟩ = some (.slice (some ⟨g3, 0, none⟩) n0 n0) ∧ w'.cell? ⟨x8, 1, none⟩ = some (.slice (some ⟨g4, 0, none⟩) m0 m0) ∧ w'.cell? ⟨w.heap.size, 0, none⟩ = some (.slice A0 n0 c0) ∧ w'.cell? ⟨w.heap.size, 1, none⟩ = some (.slice B0 m0 d0))
      (first
        | exact ⟨(Below.refl _ _).drew, y00, y01, e00, e01⟩
        | assumption
        | (obtain ⟨hq1, p0, p1, p2, p3⟩ := (show Below w10.heap.size w10 _ ∧ World.cell? _ ⟨x8, 0, none⟩ = some (.slice (some ⟨g3, 0, none⟩) n0 n0) ∧ World.cell? _ ⟨x8, 1, none⟩ = some (.slice (some ⟨g4, 0, none⟩) m0 m0) ∧ World.cell? _ ⟨w.heap.size, 0, none⟩ = some (.slice A0 n0 c0) ∧ World.cell? _ ⟨w.heap.size, 1, none⟩ = some (.slice B0 m0 d0) from by assumption)
           exact ⟨below_mid hq1 hbd hq1.size, (hbd.cell (World.block_lt_of_cell? _ _ p0)).trans p0, (hbd.cell (World.block_lt_of_cell? _ _ p1)).trans p1, (hbd.cell (World.block_lt_of_cell? _ _ p2)).trans p2, (hbd.cell (World.block_lt_of_cell? _ _ p3)).trans p3⟩)
        | (obtain ⟨hq1, p0, p1, p2, p3⟩ := (show Below w10.heap.size w10 _ ∧ World.cell? _ ⟨x8, 0, none⟩ = some (.slice (some ⟨g3, 0, none⟩) n0 n0) ∧ World.cell? _ ⟨x8, 1, none⟩ = some (.slice (some ⟨g4, 0, none⟩) m0 m0) ∧ World.cell? _ ⟨w.heap.size, 0, none⟩ = some (.slice A0 n0 c0) ∧ World.cell? _ ⟨w.heap.size, 1, none⟩ = some (.slice B0 m0 d0) from by assumption)
           exact ⟨below_mid hq1 hbc hq1.size, (hbc.cell (World.block_lt_of_cell? _ _ p0)).trans p0, (hbc.cell (World.block_lt_of_cell? _ _ p1)).trans p1, (hbc.cell (World.block_lt_of_cell? _ _ p2)).trans p2, (hbc.cell (World.block_lt_of_cell? _ _ p3)).trans p3⟩)
        | trace_state)
      (first
        | (go_at_call 8; refine (toScript_any A0 n0 c0 s0 B0 m0 d0 x0 _ (S0.below (Q9.trans ((show Below w10.heap.size w10 _ ∧ World.cell? _ ⟨x8, 0, none⟩ = some (.slice (some ⟨g3, 0, none⟩) n0 n0) ∧ World.cell? _ ⟨x8, 1, none⟩ = some (.slice (some ⟨g4, 0, none⟩) m0 m0) ∧ World.cell? _ ⟨w.heap.size, 0, none⟩ = some (.slice A0 n0 c0) ∧ World.cell? _ ⟨w.heap.size, 1, none⟩ = some (.slice B0 m0 d0) from by assumption).1.mono Q9.size))) (T0.below (Q9.trans ((show Below w10.heap.size w10 _ ∧ World.cell? _ ⟨x8, 0, none⟩ = some (.slice (some ⟨g3, 0, none⟩) n0 n0) ∧ World.cell? _ ⟨x8, 1, none⟩ = some (.slice (some ⟨g4, 0, none⟩) m0 m0) ∧ World.cell? _ ⟨w.heap.size, 0, none⟩ = some (.slice A0 n0 c0) ∧ World.cell? _ ⟨w.heap.size, 1, none⟩ = some (.slice B0 m0 d0) from by assumption).1.mono Q9.size))) (by omega) (by omega)).mono ?_; rintro r wu ⟨gu, gv, rfl, oult, ou1, ou2, hbc⟩)
        | (go_at_call 11; refine (eqScript_any _ n0 n0 s0 _ m0 m0 x0 _ n0 n0 s0 _ m0 m0 x0 _ ((o31.below (show Below w10.heap.size w10 _ ∧ World.cell? _ ⟨x8, 0, none⟩ = some (.slice (some ⟨g3, 0, none⟩) n0 n0) ∧ World.cell? _ ⟨x8, 1, none⟩ = some (.slice (some ⟨g4, 0, none⟩) m0 m0) ∧ World.cell? _ ⟨w.heap.size, 0, none⟩ = some (.slice A0 n0 c0) ∧ World.cell? _ ⟨w.heap.size, 1, none⟩ = some (.slice B0 m0 d0) from by assumption).1).sl eS_len) ((o32.below (show Below w10.heap.size w10 _ ∧ World.cell? _ ⟨x8, 0, none⟩ = some (.slice (some ⟨g3, 0, none⟩) n0 n0) ∧ World.cell? _ ⟨x8, 1, none⟩ = some (.slice (some ⟨g4, 0, none⟩) m0 m0) ∧ World.cell? _ ⟨w.heap.size, 0, none⟩ = some (.slice A0 n0 c0) ∧ World.cell? _ ⟨w.heap.size, 1, none⟩ = some (.slice B0 m0 d0) from by assumption).1).sl eAct_len) (ou1.sl eS_len) (ou2.sl eAct_len) (by omega) (by omega) (by omega) (by omega)).mono ?_; rintro r wv ⟨rfl, hbd⟩))
    all_goals (
      obtain ⟨hbun, y00, y01, e00, e01⟩ := (show Below w10.heap.size w10 _ ∧ World.cell? _ ⟨x8, 0, none⟩ = some (.slice (some ⟨g3, 0, none⟩) n0 n0) ∧ World.cell? _ ⟨x8, 1, none⟩ = some (.slice (some ⟨g4, 0, none⟩) m0 m0) ∧ World.cell? _ ⟨w.heap.size, 0, none⟩ = some (.slice A0 n0 c0) ∧ World.cell? _ ⟨w.heap.size, 1, none⟩ = some (.slice B0 m0 d0) from by assumption)
      have K11 := Q9.trans (hbun.mono Q9.size)
      replace vw1 := vw1.below hbun
      replace vw2 := vw2.below hbun
      replace o31 := o31.below hbun
      replace o32 := o32.below hbun
      replace vg1 := vg1.below hbun
      replace vg2 := vg2.below hbun
      replace wc0 := (hbun.cell (World.block_lt_of_cell? _ _ wc0)).trans wc0
      replace wc1 := (hbun.cell (World.block_lt_of_cell? _ _ wc1)).trans wc1
      replace gc0 := (hbun.cell (World.block_lt_of_cell? _ _ gc0)).trans gc0
      replace gc1 := (hbun.cell (World.block_lt_of_cell? _ _ gc1)).trans gc1
      go_wp2_with fail
      refine (markScript_any _ n0 n0 _ s0 _ m0 m0 _ x0 1 _ o31 o32 (.inr (by simp [Value.ownBlock]; omega)) (by omega) (by omega) (by omega) (by omega)).mono ?_
      rintro r w12 ⟨rfl, _, _, wq, gr1, gr2⟩
      have b31 := (o31.lt g3 rfl).1
      have b32 := (o32.lt g4 rfl).1
      have t31 := (o31.lt g3 rfl).2
      have t32 := (o32.lt g4 rfl).2
      have h6 := hx6.out
      have h6b := hx6b.out
      have h8 := hx8.out
      have h8b := hx8b.out
      have h9 := hx9.out
      have s9 := hb9.size
      have s7 := hb7.size
      have g38 := G38.out
      have g48 := G48.out
      have hwx := hWx.out
      have Q10 := (K11.grown gr1 K11.size (fun q hq => by have := (o31.lt q hq).1; omega)).grown gr2 (Nat.le_trans K11.size gr1.size) (fun q hq => by have := (o32.lt q hq).1; omega)
      replace e00 := gr2.cell (gr1.cell e00 (by simp [Value.ownBlock]; omega)) (by simp [Value.ownBlock]; omega)
      replace e01 := gr2.cell (gr1.cell e01 (by simp [Value.ownBlock]; omega)) (by simp [Value.ownBlock]; omega)
      replace wc0 := gr2.cell (gr1.cell wc0 (by simp [Value.ownBlock]; omega)) (by simp [Value.ownBlock]; omega)
      replace wc1 := gr2.cell (gr1.cell wc1 (by simp [Value.ownBlock]; omega)) (by simp [Value.ownBlock]; omega)
      replace gc0 := gr2.cell (gr1.cell gc0 (by simp [Value.ownBlock]; omega)) (by simp [Value.ownBlock]; omega)
      replace gc1 := gr2.cell (gr1.cell gc1 (by simp [Value.ownBlock]; omega)) (by simp [Value.ownBlock]; omega)
      replace vw1 := (vw1.grown gr1 Xw1).grown gr2 Xw2
      replace vw2 := (vw2.grown gr1 Yw1).grown gr2 Yw2
      replace vg1 := (vg1.grown gr1 Xg1).grown gr2 Xg2
      replace vg2 := (vg2.grown gr1 Yg1).grown gr2 Yg2
      clear o31 o32
      have hp1 : ¬ ((1 : Int) + n0 + m0 * 4) < 0 := by omega
      go_wp2_with fail
      refine (eqScript_any _ _ _ sw _ _ _ aw _ _ _ sw _ _ _ aw _ (vg1.sl eS_len) (vg2.sl eAct_len) (vw1.sl eS_len) (vw2.sl eAct_len) hls hla hls hla).mono ?_
      rintro r w13 ⟨rfl, hb13⟩
      have Q11 := below_step Q10 hb13
      replace e00 := (hb13.cell (World.block_lt_of_cell? _ _ e00)).trans e00
      replace e01 := (hb13.cell (World.block_lt_of_cell? _ _ e01)).trans e01
      replace wc0 := (hb13.cell (World.block_lt_of_cell? _ _ wc0)).trans wc0
      replace wc1 := (hb13.cell (World.block_lt_of_cell? _ _ wc1)).trans wc1
      replace gc0 := (hb13.cell (World.block_lt_of_cell? _ _ gc0)).trans gc0
      replace gc1 := (hb13.cell (World.block_lt_of_cell? _ _ gc1)).trans gc1
      replace vw1 := vw1.below hb13
      replace vw2 := vw2.below hb13
      replace vg1 := vg1.below hb13
      replace vg2 := vg2.below hb13
      rw [decide_eq_true (⟨rfl, rfl⟩ : sw = sw ∧ aw = aw)]
      go_wp2_with fail
      refine (markScript_any Ag _ cg _ sw Bg _ dg _ aw 1 _ vg1 vg2 (ap_of NG.out) hls hla (by omega) (by omega)).mono ?_
      rintro r w14 ⟨rfl, gm1, gm2, wr, gr3, gr4⟩
      have l1 := vg1.lt
      have l2 := vg2.lt
      have Q12 := (Q11.grown gr3 Q11.size (fun q hq => by have := (l1 q hq).1; omega)).grown gr4 (Nat.le_trans Q11.size gr3.size) (fun q hq => by have := (l2 q hq).1; omega)
      replace e00 := gr4.cell (gr3.cell e00 (fun e => by have := (l1 _ e.symm); simp at this; omega)) (fun e => by have := (l2 _ e.symm); simp at this; omega)
      replace e01 := gr4.cell (gr3.cell e01 (fun e => by have := (l1 _ e.symm); simp at this; omega)) (fun e => by have := (l2 _ e.symm); simp at this; omega)
      replace wc0 := gr4.cell (gr3.cell wc0 (fun e => by have := (l1 _ e.symm); simp at this; omega)) (fun e => by have := (l2 _ e.symm); simp at this; omega)
      replace wc1 := gr4.cell (gr3.cell wc1 (fun e => by have := (l1 _ e.symm); simp at this; omega)) (fun e => by have := (l2 _ e.symm); simp at this; omega)
      replace gc0 := gr4.cell (gr3.cell gc0 (fun e => by have q1 : x9 < w9.heap.size := (L1.out _ e.symm).2; omega)) (fun e => by have q1 : x9 < w9.heap.size := (L2.out _ e.symm).2; omega)
      replace gc1 := gr4.cell (gr3.cell gc1 (fun e => by have q1 : x9 < w9.heap.size := (L1.out _ e.symm).2; omega)) (fun e => by have q1 : x9 < w9.heap.size := (L2.out _ e.symm).2; omega)
      replace vw1 := (vw1.grown gr3 Xwg1).grown gr4 Xwg2
      replace vw2 := (vw2.grown gr3 Ywg1).grown gr4 Ywg2
      clear vg1 vg2 l1 l2
      go_wp2_with fail
      have hp2 : ¬ ((1 : Int) + sw.length + aw.length * 4) < 0 := by omega
      refine (heldScript_any Ag _ cg Bg _ dg 1 _ (gm1.sl eS_len) (gm2.sl eAct_len) hls hla (by omega) (by omega)).mono ?_
      rintro r w15 ⟨rfl, hb15⟩
      have Q13 := below_step Q12 hb15
      replace e00 := (hb15.cell (World.block_lt_of_cell? _ _ e00)).trans e00
      replace e01 := (hb15.cell (World.block_lt_of_cell? _ _ e01)).trans e01
      replace wc0 := (hb15.cell (World.block_lt_of_cell? _ _ wc0)).trans wc0
      replace wc1 := (hb15.cell (World.block_lt_of_cell? _ _ wc1)).trans wc1
      replace gc0 := (hb15.cell (World.block_lt_of_cell? _ _ gc0)).trans gc0
      replace gc1 := (hb15.cell (World.block_lt_of_cell? _ _ gc1)).trans gc1
      replace vw1 := vw1.below hb15
      replace vw2 := vw2.below hb15
      replace gm1 := gm1.below hb15
      replace gm2 := gm2.below hb15
      go_wp2_with fail
      refine (toScript_any A0 n0 c0 s0 B0 m0 d0 x0 _ (S0.below Q13) (T0.below Q13) (by omega) (by omega)).mono ?_; rintro r w16 ⟨g5, g6, rfl, o5lt, o51, o52, hb16⟩
      have Q14 := below_step Q13 hb16
      replace e00 := (hb16.cell (World.block_lt_of_cell? _ _ e00)).trans e00
      replace e01 := (hb16.cell (World.block_lt_of_cell? _ _ e01)).trans e01
      replace wc0 := (hb16.cell (World.block_lt_of_cell? _ _ wc0)).trans wc0
      replace wc1 := (hb16.cell (World.block_lt_of_cell? _ _ wc1)).trans wc1
      replace gc0 := (hb16.cell (World.block_lt_of_cell? _ _ gc0)).trans gc0
      replace gc1 := (hb16.cell (World.block_lt_of_cell? _ _ gc1)).trans gc1
      replace vw1 := vw1.below hb16
      replace vw2 := vw2.below hb16
      replace gm1 := gm1.below hb16
      replace gm2 := gm2.below hb16
      go_wp2_with fail
      refine (implShiftScript_any _ n0 s0 g6 m0 x0 a1 _ (o51.sl eS_len) (o52.sl eAct_len) (by omega) (by omega) Z0).mono ?_
      rintro r w17 ⟨Ah, ch, Bh, dh, rfl, hv1, hv2, -, hb17⟩
      rw [← HSW.out] at hv1 ⊢
      rw [← HAW.out] at hv2 ⊢
      rw [← HCW.out]
      have Q15 := below_step Q14 hb17
      replace e00 := (hb17.cell (World.block_lt_of_cell? _ _ e00)).trans e00
      replace e01 := (hb17.cell (World.block_lt_of_cell? _ _ e01)).trans e01
      replace wc0 := (hb17.cell (World.block_lt_of_cell? _ _ wc0)).trans wc0
      replace wc1 := (hb17.cell (World.block_lt_of_cell? _ _ wc1)).trans wc1
      replace gc0 := (hb17.cell (World.block_lt_of_cell? _ _ gc0)).trans gc0
      replace gc1 := (hb17.cell (World.block_lt_of_cell? _ _ gc1)).trans gc1
      replace vw1 := vw1.below hb17
      replace vw2 := vw2.below hb17
      replace gm1 := gm1.below hb17
      replace gm2 := gm2.below hb17
      have e00a := cell_al e00
      have e01a := cell_al e01
      have wc0a := cell_al wc0
      have wc1a := cell_al wc1
      have gc0a := cell_al gc0
      have gc1a := cell_al gc1
      go_wp2_with fail
      clear e00a e01a wc0a wc1a gc0a gc1a
      have bq := below_alloc w17 (.cells #[.slice Ah sw.length ch, .slice Bh aw.length dh] 31)
      have Q16 := below_step Q15 bq
      have hc0 : (w17.alloc (.cells #[.slice Ah sw.length ch, .slice Bh aw.length dh] 31)).cell? ⟨w17.heap.size, 0, none⟩ = some (.slice Ah sw.length ch) := by simp [go_sem]
      have hc1 : (w17.alloc (.cells #[.slice Ah sw.length ch, .slice Bh aw.length dh] 31)).cell? ⟨w17.heap.size, 1, none⟩ = some (.slice Bh aw.length dh) := by simp [go_sem]
      replace e00 := (bq.cell (World.block_lt_of_cell? _ _ e00)).trans e00
      replace e01 := (bq.cell (World.block_lt_of_cell? _ _ e01)).trans e01
      replace wc0 := (bq.cell (World.block_lt_of_cell? _ _ wc0)).trans wc0
      replace wc1 := (bq.cell (World.block_lt_of_cell? _ _ wc1)).trans wc1
      replace gc0 := (bq.cell (World.block_lt_of_cell? _ _ gc0)).trans gc0
      replace gc1 := (bq.cell (World.block_lt_of_cell? _ _ gc1)).trans gc1
      replace vw1 := vw1.below bq
      replace vw2 := vw2.below bq
      replace gm1 := gm1.below bq
      replace gm2 := gm2.below bq
      replace hv1 := hv1.below bq
      replace hv2 := hv2.below bq
      clear bq
      generalize Ex17 : w17.heap.size = x17 at hc0 hc1 ⊢
      have hx17 := Lib.hid Ex17
      clear Ex17
      generalize w17.alloc (.cells #[.slice Ah sw.length ch, .slice Bh aw.length dh] 31) = w17b at Q16 hc0 hc1 e00 e01 wc0 wc1 gc0 gc1 vw1 vw2 gm1 gm2 hv1 hv2 ⊢
      refine (eqScript_any _ _ _ sw _ _ _ aw _ _ _ sw _ _ _ aw _ (hv1.sl eS_len) (hv2.sl eAct_len) (vw1.sl eS_len) (vw2.sl eAct_len) hls hla hls hla).mono ?_
      rintro r w18 ⟨rfl, hb18⟩
      have Q17 := below_step Q16 hb18
      replace e00 := (hb18.cell (World.block_lt_of_cell? _ _ e00)).trans e00
      replace e01 := (hb18.cell (World.block_lt_of_cell? _ _ e01)).trans e01
      replace wc0 := (hb18.cell (World.block_lt_of_cell? _ _ wc0)).trans wc0
      replace wc1 := (hb18.cell (World.block_lt_of_cell? _ _ wc1)).trans wc1
      replace gc0 := (hb18.cell (World.block_lt_of_cell? _ _ gc0)).trans gc0
      replace gc1 := (hb18.cell (World.block_lt_of_cell? _ _ gc1)).trans gc1
      replace hc0 := (hb18.cell (World.block_lt_of_cell? _ _ hc0)).trans hc0
      replace hc1 := (hb18.cell (World.block_lt_of_cell? _ _ hc1)).trans hc1
      replace vw1 := vw1.below hb18
      replace vw2 := vw2.below hb18
      replace gm1 := gm1.below hb18
      replace gm2 := gm2.below hb18
      replace hv1 := hv1.below hb18
      replace hv2 := hv2.below hb18
      rw [decide_eq_true (⟨rfl, rfl⟩ : sw = sw ∧ aw = aw)]
      go_wp2_with fail
      refine (heldScript_any Ag _ cg Bg _ dg 1 _ (gm1.sl eS_len) (gm2.sl eAct_len) hls hla (by omega) (by omega)).mono ?_
      rintro r w19 ⟨rfl, hb19⟩
      go_wp2_with fail
      go_ret
      exact ⟨rfl, below_step Q17 hb19⟩)

end Go.Proofs.Ytccddejbbdciiaa
