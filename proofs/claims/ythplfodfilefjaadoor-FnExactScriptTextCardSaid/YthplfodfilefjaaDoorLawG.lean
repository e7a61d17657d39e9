/-
  The walk of the law on a script as text.
-/
import Derived.Test.YthplfodfilefjaaDoorSt
import Derived.Test.YthplfodfilefjaaDoorScC
import Derived.Deep.RegionHeld3
namespace Go.Proofs.YthplfodfilefjaaDoor
set_option maxRecDepth 100000
open Go.RowKit
set_option linter.unusedVariables false

set_option maxHeartbeats 1600000 in
set_option maxRecDepth 100000 in
theorem scriptText_walk (A0 : Option Addr) (n0 c0 : Nat) (s0 : List ByteArray) (B0 : Option Addr) (m0 d0 : Nat) (x0 : List (Int × ByteArray × ByteArray × Int)) (w : World) (N0 : n0 ≤ maxLen) (M0 : m0 ≤ maxLen) (S0 : Sl w 1 eS A0 n0 s0) (T0 : Sl w 4 eAct B0 m0 x0) (Z0 : ∀ s ∈ s0, s.size ≤ maxLen) (X0 : ∀ x ∈ x0, (x.2.1.size ≤ maxLen ∧ x.2.2.1.size ≤ maxLen) ∧ In64 x.1 ∧ In64 x.2.2.2) (hT : Tab w) :
    Calls Tryd.prog 3 #[.agg #[.slice A0 n0 c0, .slice B0 m0 d0]] w fun e w' => e = .returned (.bool true) ∧ Below w.heap.size w w' := by
  have hle := szGo_le (us := szC n0 m0 s0 x0) (show (0 : Int) ≤ 1048576 by omega)
  by_cases q0 : szGo (szC n0 m0 s0 x0) 1048576 < 0
  · have hm1 : szGo (szC n0 m0 s0 x0) 1048576 = -1 := by omega
    go_enter Tryd.func3, Tryd.ntmps3
    go_wp2_with fail
    have hW : Below w.heap.size w (w.alloc (.cells #[.slice A0 n0 c0, .slice B0 m0 d0] 25)) := below_alloc _ _
    have e00 : (w.alloc (.cells #[.slice A0 n0 c0, .slice B0 m0 d0] 25)).cell? ⟨w.heap.size, 0, none⟩ = some (.slice A0 n0 c0) := by simp [go_sem]
    have e01 : (w.alloc (.cells #[.slice A0 n0 c0, .slice B0 m0 d0] 25)).cell? ⟨w.heap.size, 1, none⟩ = some (.slice B0 m0 d0) := by simp [go_sem]
    generalize (w.alloc (.cells #[.slice A0 n0 c0, .slice B0 m0 d0] 25)) = W1 at hW e00 e01 ⊢
    refine (szScript_any A0 n0 c0 s0 B0 m0 d0 x0 1048576 _ (S0.below hW) (T0.below hW) (by omega) (by omega) N0 M0 Z0 (fun x hx => (X0 x hx).1)).mono ?_
    rintro r w3 ⟨rfl, hb3⟩
    rw [hm1]
    go_wp2_with fail
    go_ret
    exact ⟨rfl, below_step hW hb3⟩
  · have k0 := szGo_mem (us := szC n0 m0 s0 x0) (show (0 : Int) ≤ 1048576 by omega) (by omega)
    have kn0 := k0 n0 (by simp [szC, szS])
    have km0 := k0 m0 (by simp [szC, szA])
    clear k0
    obtain ⟨v0, hv0⟩ : ∃ v, v = szGo (szC n0 m0 s0 x0) 1048576 := ⟨_, rfl⟩
    rw [← hv0] at hle q0
    have HV0 := Lib.hid hv0.symm
    clear hv0
    go_enter Tryd.func3, Tryd.ntmps3
    go_wp2_with fail
    have hW : Below w.heap.size w (w.alloc (.cells #[.slice A0 n0 c0, .slice B0 m0 d0] 25)) := below_alloc _ _
    have e00 : (w.alloc (.cells #[.slice A0 n0 c0, .slice B0 m0 d0] 25)).cell? ⟨w.heap.size, 0, none⟩ = some (.slice A0 n0 c0) := by simp [go_sem]
    have e01 : (w.alloc (.cells #[.slice A0 n0 c0, .slice B0 m0 d0] 25)).cell? ⟨w.heap.size, 1, none⟩ = some (.slice B0 m0 d0) := by simp [go_sem]
    generalize (w.alloc (.cells #[.slice A0 n0 c0, .slice B0 m0 d0] 25)) = W1 at hW e00 e01 ⊢
    refine (szScript_any A0 n0 c0 s0 B0 m0 d0 x0 1048576 _ (S0.below hW) (T0.below hW) (by omega) (by omega) N0 M0 Z0 (fun x hx => (X0 x hx).1)).mono ?_
    rintro r w3 ⟨rfl, hb3⟩
    rw [HV0.out]
    replace e00 := (hb3.cell (World.block_lt_of_cell? _ _ e00)).trans e00
    replace e01 := (hb3.cell (World.block_lt_of_cell? _ _ e01)).trans e01
    have K3 := below_step hW hb3
    go_wp2_with fail
    refine (toScript_any A0 n0 c0 s0 B0 m0 d0 x0 _ (S0.below K3) (T0.below K3) (by omega) (by omega)).mono ?_; rintro r w5 ⟨g1, g2, rfl, o1lt, o11, o12, hb5⟩
    have K5 := below_step K3 hb5
    replace e00 := (hb5.cell (World.block_lt_of_cell? _ _ e00)).trans e00
    replace e01 := (hb5.cell (World.block_lt_of_cell? _ _ e01)).trans e01
    go_wp2_with fail
    refine (specScriptText_any _ n0 n0 s0 _ m0 m0 x0 _ (o11.sl eS_len) (o12.sl eAct_len) (by omega) (by omega) Z0).mono ?_
    rintro r w6 ⟨rfl, hb6⟩
    have K6 := below_step K5 hb6
    replace e00 := (hb6.cell (World.block_lt_of_cell? _ _ e00)).trans e00
    replace e01 := (hb6.cell (World.block_lt_of_cell? _ _ e01)).trans e01
    go_wp2_with fail
    refine (toScript_any A0 n0 c0 s0 B0 m0 d0 x0 _ (S0.below K6) (T0.below K6) (by omega) (by omega)).mono ?_; rintro r w7 ⟨g3, g4, rfl, o3lt, o31, o32, hb7⟩
    have K7 := below_step K6 hb7
    replace e00 := (hb7.cell (World.block_lt_of_cell? _ _ e00)).trans e00
    replace e01 := (hb7.cell (World.block_lt_of_cell? _ _ e01)).trans e01
    have e00' := cell_al e00
    have e01' := cell_al e01
    go_wp2_with fail
    clear e00' e01'
    have K8 := K7.alloc K7.size (.cells #[.slice (some ⟨g3, 0, none⟩) n0 n0, .slice (some ⟨g4, 0, none⟩) m0 m0] 30)
    have bq := below_alloc w7 (.cells #[.slice (some ⟨g3, 0, none⟩) n0 n0, .slice (some ⟨g4, 0, none⟩) m0 m0] 30)
    have y00 : (w7.alloc (.cells #[.slice (some ⟨g3, 0, none⟩) n0 n0, .slice (some ⟨g4, 0, none⟩) m0 m0] 30)).cell? ⟨w7.heap.size, 0, none⟩ = some (.slice (some ⟨g3, 0, none⟩) n0 n0) := by simp [go_sem]
    have y01 : (w7.alloc (.cells #[.slice (some ⟨g3, 0, none⟩) n0 n0, .slice (some ⟨g4, 0, none⟩) m0 m0] 30)).cell? ⟨w7.heap.size, 1, none⟩ = some (.slice (some ⟨g4, 0, none⟩) m0 m0) := by simp [go_sem]
    replace o31 := o31.below bq
    replace o32 := o32.below bq
    replace e00 := (bq.cell (World.block_lt_of_cell? _ _ e00)).trans e00
    replace e01 := (bq.cell (World.block_lt_of_cell? _ _ e01)).trans e01
    generalize hx8 : w7.heap.size = x8 at y00 y01 ⊢
    have hx8 := Lib.hid hx8
    clear bq
    generalize w7.alloc (.cells #[.slice (some ⟨g3, 0, none⟩) n0 n0, .slice (some ⟨g4, 0, none⟩) m0 m0] 30) = w8 at K8 y00 y01 o31 o32 e00 e01 ⊢
    refine (implScriptText_any _ n0 n0 s0 _ m0 m0 x0 _ (o31.sl eS_len) (o32.sl eAct_len) (by omega) (by omega) Z0 (hT.below K8)).mono ?_
    rintro r w9 ⟨rfl, hb9⟩
    have K9 := below_step K8 hb9
    replace e00 := (hb9.cell (World.block_lt_of_cell? _ _ e00)).trans e00
    replace e01 := (hb9.cell (World.block_lt_of_cell? _ _ e01)).trans e01
    replace y00 := (hb9.cell (World.block_lt_of_cell? _ _ y00)).trans y00
    replace y01 := (hb9.cell (World.block_lt_of_cell? _ _ y01)).trans y01
    replace o31 := o31.below hb9
    replace o32 := o32.below hb9
    generalize stText s0 x0 = q
    have qq : (q.toList != q.toList) = false := by simp
    go_wp2_with fail
    go_region_held3 (fun w' => Below w9.heap.size w9 w' ∧ w'.cell? ⟨x8, 0, none⟩ = some (.slice (some ⟨g3, 0, none⟩) n0 n0) ∧ w'.cell? ⟨x8, 1, none⟩ = some (.slice (some ⟨g4, 0, none⟩) m0 m0) ∧ w'.cell? ⟨w.heap.size, 0, none⟩ = some (.slice A0 n0 c0) ∧ w'.cell? ⟨w.heap.size, 1, none⟩ = some (.slice B0 m0 d0))
      (first
        | exact ⟨(Below.refl _ _).drew, y00, y01, e00, e01⟩
        | assumption
        | (obtain ⟨hq1, p0, p1, p2, p3⟩ := (show Below w9.heap.size w9 _ ∧ World.cell? _ ⟨x8, 0, none⟩ = some (.slice (some ⟨g3, 0, none⟩) n0 n0) ∧ World.cell? _ ⟨x8, 1, none⟩ = some (.slice (some ⟨g4, 0, none⟩) m0 m0) ∧ World.cell? _ ⟨w.heap.size, 0, none⟩ = some (.slice A0 n0 c0) ∧ World.cell? _ ⟨w.heap.size, 1, none⟩ = some (.slice B0 m0 d0) from by assumption)
           exact ⟨below_mid hq1 hbd hq1.size, (hbd.cell (World.block_lt_of_cell? _ _ p0)).trans p0, (hbd.cell (World.block_lt_of_cell? _ _ p1)).trans p1, (hbd.cell (World.block_lt_of_cell? _ _ p2)).trans p2, (hbd.cell (World.block_lt_of_cell? _ _ p3)).trans p3⟩)
        | (obtain ⟨hq1, p0, p1, p2, p3⟩ := (show Below w9.heap.size w9 _ ∧ World.cell? _ ⟨x8, 0, none⟩ = some (.slice (some ⟨g3, 0, none⟩) n0 n0) ∧ World.cell? _ ⟨x8, 1, none⟩ = some (.slice (some ⟨g4, 0, none⟩) m0 m0) ∧ World.cell? _ ⟨w.heap.size, 0, none⟩ = some (.slice A0 n0 c0) ∧ World.cell? _ ⟨w.heap.size, 1, none⟩ = some (.slice B0 m0 d0) from by assumption)
           exact ⟨below_mid hq1 hbc hq1.size, (hbc.cell (World.block_lt_of_cell? _ _ p0)).trans p0, (hbc.cell (World.block_lt_of_cell? _ _ p1)).trans p1, (hbc.cell (World.block_lt_of_cell? _ _ p2)).trans p2, (hbc.cell (World.block_lt_of_cell? _ _ p3)).trans p3⟩)
        | trace_state)
      (first
        | (go_at_call 8; refine (toScript_any A0 n0 c0 s0 B0 m0 d0 x0 _ (S0.below (K9.trans ((show Below w9.heap.size w9 _ ∧ World.cell? _ ⟨x8, 0, none⟩ = some (.slice (some ⟨g3, 0, none⟩) n0 n0) ∧ World.cell? _ ⟨x8, 1, none⟩ = some (.slice (some ⟨g4, 0, none⟩) m0 m0) ∧ World.cell? _ ⟨w.heap.size, 0, none⟩ = some (.slice A0 n0 c0) ∧ World.cell? _ ⟨w.heap.size, 1, none⟩ = some (.slice B0 m0 d0) from by assumption).1.mono K9.size))) (T0.below (K9.trans ((show Below w9.heap.size w9 _ ∧ World.cell? _ ⟨x8, 0, none⟩ = some (.slice (some ⟨g3, 0, none⟩) n0 n0) ∧ World.cell? _ ⟨x8, 1, none⟩ = some (.slice (some ⟨g4, 0, none⟩) m0 m0) ∧ World.cell? _ ⟨w.heap.size, 0, none⟩ = some (.slice A0 n0 c0) ∧ World.cell? _ ⟨w.heap.size, 1, none⟩ = some (.slice B0 m0 d0) from by assumption).1.mono K9.size))) (by omega) (by omega)).mono ?_; rintro r wu ⟨gu, gv, rfl, oult, ou1, ou2, hbc⟩)
        | (go_at_call 10; refine (eqScript_any _ n0 n0 s0 _ m0 m0 x0 _ n0 n0 s0 _ m0 m0 x0 _ ((o31.below (show Below w9.heap.size w9 _ ∧ World.cell? _ ⟨x8, 0, none⟩ = some (.slice (some ⟨g3, 0, none⟩) n0 n0) ∧ World.cell? _ ⟨x8, 1, none⟩ = some (.slice (some ⟨g4, 0, none⟩) m0 m0) ∧ World.cell? _ ⟨w.heap.size, 0, none⟩ = some (.slice A0 n0 c0) ∧ World.cell? _ ⟨w.heap.size, 1, none⟩ = some (.slice B0 m0 d0) from by assumption).1).sl eS_len) ((o32.below (show Below w9.heap.size w9 _ ∧ World.cell? _ ⟨x8, 0, none⟩ = some (.slice (some ⟨g3, 0, none⟩) n0 n0) ∧ World.cell? _ ⟨x8, 1, none⟩ = some (.slice (some ⟨g4, 0, none⟩) m0 m0) ∧ World.cell? _ ⟨w.heap.size, 0, none⟩ = some (.slice A0 n0 c0) ∧ World.cell? _ ⟨w.heap.size, 1, none⟩ = some (.slice B0 m0 d0) from by assumption).1).sl eAct_len) (ou1.sl eS_len) (ou2.sl eAct_len) (by omega) (by omega) (by omega) (by omega)).mono ?_; rintro r wv ⟨rfl, hbd⟩))
    all_goals (
      obtain ⟨hbun, y00, y01, e00, e01⟩ := (show Below w9.heap.size w9 _ ∧ World.cell? _ ⟨x8, 0, none⟩ = some (.slice (some ⟨g3, 0, none⟩) n0 n0) ∧ World.cell? _ ⟨x8, 1, none⟩ = some (.slice (some ⟨g4, 0, none⟩) m0 m0) ∧ World.cell? _ ⟨w.heap.size, 0, none⟩ = some (.slice A0 n0 c0) ∧ World.cell? _ ⟨w.heap.size, 1, none⟩ = some (.slice B0 m0 d0) from by assumption)
      have K11 := K9.trans (hbun.mono K9.size)
      go_wp2_with fail
      go_ret
      exact ⟨rfl, K11⟩)

end Go.Proofs.YthplfodfilefjaaDoor
