/-
  The walk of the law on two scripts' equality.
-/
import Derived.Test.YtcpbdikdghhblaaScD
import Derived.Deep.RegionHeld3
namespace Go.Proofs.Ytcpbdikdghhblaa
open Go.RowKit
set_option linter.unusedVariables false

set_option maxHeartbeats 3200000 in
theorem sameScript_walk (A0 : Option Addr) (n0 c0 : Nat) (s0 : List ByteArray) (B0 : Option Addr) (m0 d0 : Nat) (x0 : List (Int × ByteArray × ByteArray × Int)) (A1 : Option Addr) (n1 c1 : Nat) (s1 : List ByteArray) (B1 : Option Addr) (m1 d1 : Nat) (x1 : List (Int × ByteArray × ByteArray × Int)) (w : World) (N0 : n0 ≤ maxLen) (M0 : m0 ≤ maxLen) (S0 : Sl w 1 eS A0 n0 s0) (T0 : Sl w 4 eAct B0 m0 x0) (Z0 : ∀ s ∈ s0, s.size ≤ maxLen) (X0 : ∀ x ∈ x0, (x.2.1.size ≤ maxLen ∧ x.2.2.1.size ≤ maxLen) ∧ In64 x.1 ∧ In64 x.2.2.2) (N1 : n1 ≤ maxLen) (M1 : m1 ≤ maxLen) (S1 : Sl w 1 eS A1 n1 s1) (T1 : Sl w 4 eAct B1 m1 x1) (Z1 : ∀ s ∈ s1, s.size ≤ maxLen) (X1 : ∀ x ∈ x1, (x.2.1.size ≤ maxLen ∧ x.2.2.1.size ≤ maxLen) ∧ In64 x.1 ∧ In64 x.2.2.2) :
    Calls Try.prog 4 #[.agg #[.slice A0 n0 c0, .slice B0 m0 d0], .agg #[.slice A1 n1 c1, .slice B1 m1 d1]] w fun e w' => e = .returned (.bool true) ∧ Below w.heap.size w w' := by
  have hle := szGo_le (us := szC n0 m0 s0 x0) (show (0 : Int) ≤ 1048576 by omega)
  by_cases q0 : szGo (szC n0 m0 s0 x0) 1048576 < 0
  · have hm1 : szGo (szC n0 m0 s0 x0) 1048576 = -1 := by omega
    go_enter Try.func4, Try.ntmps4
    go_wp2_with fail
    have hW : Below w.heap.size w ((w.alloc (.cells #[.slice A0 n0 c0, .slice B0 m0 d0] 25)).alloc (.cells #[.slice A1 n1 c1, .slice B1 m1 d1] 25)) := (below_alloc w _).alloc (by simp) _
    have e00 : ((w.alloc (.cells #[.slice A0 n0 c0, .slice B0 m0 d0] 25)).alloc (.cells #[.slice A1 n1 c1, .slice B1 m1 d1] 25)).cell? ⟨w.heap.size, 0, none⟩ = some (.slice A0 n0 c0) := by simp [go_sem]
    have e01 : ((w.alloc (.cells #[.slice A0 n0 c0, .slice B0 m0 d0] 25)).alloc (.cells #[.slice A1 n1 c1, .slice B1 m1 d1] 25)).cell? ⟨w.heap.size, 1, none⟩ = some (.slice B0 m0 d0) := by simp [go_sem]
    have e10 : ((w.alloc (.cells #[.slice A0 n0 c0, .slice B0 m0 d0] 25)).alloc (.cells #[.slice A1 n1 c1, .slice B1 m1 d1] 25)).cell? ⟨w.heap.size + 1, 0, none⟩ = some (.slice A1 n1 c1) := by simp [go_sem]
    have e11 : ((w.alloc (.cells #[.slice A0 n0 c0, .slice B0 m0 d0] 25)).alloc (.cells #[.slice A1 n1 c1, .slice B1 m1 d1] 25)).cell? ⟨w.heap.size + 1, 1, none⟩ = some (.slice B1 m1 d1) := by simp [go_sem]
    generalize ((w.alloc (.cells #[.slice A0 n0 c0, .slice B0 m0 d0] 25)).alloc (.cells #[.slice A1 n1 c1, .slice B1 m1 d1] 25)) = W2 at hW e00 e01 e10 e11 ⊢
    refine (szScript_any A0 n0 c0 s0 B0 m0 d0 x0 1048576 _ (S0.below hW) (T0.below hW) (by omega) (by omega) N0 M0 Z0 (fun x hx => (X0 x hx).1)).mono ?_
    rintro r w3 ⟨rfl, hb3⟩
    rw [hm1]
    go_wp2_with fail
    go_ret
    exact ⟨rfl, below_step hW hb3⟩
  · have k0 := szGo_mem (us := szC n0 m0 s0 x0) (show (0 : Int) ≤ 1048576 by omega) (by omega)
    have kn0 := k0 n0 (by simp [szC, szS])
    have km0 := k0 m0 (by simp [szC, szA])
    clear k0
    obtain ⟨v0, hv0⟩ : ∃ v, v = szGo (szC n0 m0 s0 x0) 1048576 := ⟨_, rfl⟩
    rw [← hv0] at hle q0
    have HV0 := Lib.hid hv0.symm
    clear hv0
    have hle1 := szGo_le (us := szC n1 m1 s1 x1) (l := v0) (by omega)
    by_cases q1 : szGo (szC n1 m1 s1 x1) v0 < 0
    · have hm1 : szGo (szC n1 m1 s1 x1) v0 = -1 := by omega
      go_enter Try.func4, Try.ntmps4
      go_wp2_with fail
      have hW : Below w.heap.size w ((w.alloc (.cells #[.slice A0 n0 c0, .slice B0 m0 d0] 25)).alloc (.cells #[.slice A1 n1 c1, .slice B1 m1 d1] 25)) := (below_alloc w _).alloc (by simp) _
      have e00 : ((w.alloc (.cells #[.slice A0 n0 c0, .slice B0 m0 d0] 25)).alloc (.cells #[.slice A1 n1 c1, .slice B1 m1 d1] 25)).cell? ⟨w.heap.size, 0, none⟩ = some (.slice A0 n0 c0) := by simp [go_sem]
      have e01 : ((w.alloc (.cells #[.slice A0 n0 c0, .slice B0 m0 d0] 25)).alloc (.cells #[.slice A1 n1 c1, .slice B1 m1 d1] 25)).cell? ⟨w.heap.size, 1, none⟩ = some (.slice B0 m0 d0) := by simp [go_sem]
      have e10 : ((w.alloc (.cells #[.slice A0 n0 c0, .slice B0 m0 d0] 25)).alloc (.cells #[.slice A1 n1 c1, .slice B1 m1 d1] 25)).cell? ⟨w.heap.size + 1, 0, none⟩ = some (.slice A1 n1 c1) := by simp [go_sem]
      have e11 : ((w.alloc (.cells #[.slice A0 n0 c0, .slice B0 m0 d0] 25)).alloc (.cells #[.slice A1 n1 c1, .slice B1 m1 d1] 25)).cell? ⟨w.heap.size + 1, 1, none⟩ = some (.slice B1 m1 d1) := by simp [go_sem]
      generalize ((w.alloc (.cells #[.slice A0 n0 c0, .slice B0 m0 d0] 25)).alloc (.cells #[.slice A1 n1 c1, .slice B1 m1 d1] 25)) = W2 at hW e00 e01 e10 e11 ⊢
      refine (szScript_any A0 n0 c0 s0 B0 m0 d0 x0 1048576 _ (S0.below hW) (T0.below hW) (by omega) (by omega) N0 M0 Z0 (fun x hx => (X0 x hx).1)).mono ?_
      rintro r w3 ⟨rfl, hb3⟩
      rw [HV0.out]
      replace e00 := (hb3.cell (World.block_lt_of_cell? _ _ e00)).trans e00
      replace e01 := (hb3.cell (World.block_lt_of_cell? _ _ e01)).trans e01
      replace e10 := (hb3.cell (World.block_lt_of_cell? _ _ e10)).trans e10
      replace e11 := (hb3.cell (World.block_lt_of_cell? _ _ e11)).trans e11
      have K3 := below_step hW hb3
      go_wp2_with fail
      refine (szScript_any A1 n1 c1 s1 B1 m1 d1 x1 v0 _ (S1.below K3) (T1.below K3) (by omega) (by omega) N1 M1 Z1 (fun x hx => (X1 x hx).1)).mono ?_
      rintro r w4 ⟨rfl, hb4⟩
      rw [hm1]
      go_wp2_with fail
      go_ret
      exact ⟨rfl, below_step K3 hb4⟩
    · have k1 := szGo_mem (us := szC n1 m1 s1 x1) (l := v0) (by omega) (by omega)
      have kn1 := k1 n1 (by simp [szC, szS])
      have km1 := k1 m1 (by simp [szC, szA])
      clear k1
      obtain ⟨v1, hv1⟩ : ∃ v, v = szGo (szC n1 m1 s1 x1) v0 := ⟨_, rfl⟩
      rw [← hv1] at hle1 q1
      have HV1 := Lib.hid hv1.symm
      clear hv1
      go_enter Try.func4, Try.ntmps4
      go_wp2_with fail
      have hW : Below w.heap.size w ((w.alloc (.cells #[.slice A0 n0 c0, .slice B0 m0 d0] 25)).alloc (.cells #[.slice A1 n1 c1, .slice B1 m1 d1] 25)) := (below_alloc w _).alloc (by simp) _
      have e00 : ((w.alloc (.cells #[.slice A0 n0 c0, .slice B0 m0 d0] 25)).alloc (.cells #[.slice A1 n1 c1, .slice B1 m1 d1] 25)).cell? ⟨w.heap.size, 0, none⟩ = some (.slice A0 n0 c0) := by simp [go_sem]
      have e01 : ((w.alloc (.cells #[.slice A0 n0 c0, .slice B0 m0 d0] 25)).alloc (.cells #[.slice A1 n1 c1, .slice B1 m1 d1] 25)).cell? ⟨w.heap.size, 1, none⟩ = some (.slice B0 m0 d0) := by simp [go_sem]
      have e10 : ((w.alloc (.cells #[.slice A0 n0 c0, .slice B0 m0 d0] 25)).alloc (.cells #[.slice A1 n1 c1, .slice B1 m1 d1] 25)).cell? ⟨w.heap.size + 1, 0, none⟩ = some (.slice A1 n1 c1) := by simp [go_sem]
      have e11 : ((w.alloc (.cells #[.slice A0 n0 c0, .slice B0 m0 d0] 25)).alloc (.cells #[.slice A1 n1 c1, .slice B1 m1 d1] 25)).cell? ⟨w.heap.size + 1, 1, none⟩ = some (.slice B1 m1 d1) := by simp [go_sem]
      generalize ((w.alloc (.cells #[.slice A0 n0 c0, .slice B0 m0 d0] 25)).alloc (.cells #[.slice A1 n1 c1, .slice B1 m1 d1] 25)) = W2 at hW e00 e01 e10 e11 ⊢
      refine (szScript_any A0 n0 c0 s0 B0 m0 d0 x0 1048576 _ (S0.below hW) (T0.below hW) (by omega) (by omega) N0 M0 Z0 (fun x hx => (X0 x hx).1)).mono ?_
      rintro r w3 ⟨rfl, hb3⟩
      rw [HV0.out]
      replace e00 := (hb3.cell (World.block_lt_of_cell? _ _ e00)).trans e00
      replace e01 := (hb3.cell (World.block_lt_of_cell? _ _ e01)).trans e01
      replace e10 := (hb3.cell (World.block_lt_of_cell? _ _ e10)).trans e10
      replace e11 := (hb3.cell (World.block_lt_of_cell? _ _ e11)).trans e11
      have K3 := below_step hW hb3
      go_wp2_with fail
      refine (szScript_any A1 n1 c1 s1 B1 m1 d1 x1 v0 _ (S1.below K3) (T1.below K3) (by omega) (by omega) N1 M1 Z1 (fun x hx => (X1 x hx).1)).mono ?_
      rintro r w4 ⟨rfl, hb4⟩
      rw [HV1.out]
      replace e00 := (hb4.cell (World.block_lt_of_cell? _ _ e00)).trans e00
      replace e01 := (hb4.cell (World.block_lt_of_cell? _ _ e01)).trans e01
      replace e10 := (hb4.cell (World.block_lt_of_cell? _ _ e10)).trans e10
      replace e11 := (hb4.cell (World.block_lt_of_cell? _ _ e11)).trans e11
      have K4 := below_step K3 hb4
      clear hb3 hb4 K3 hW
      go_wp2_with fail
      go_region_held3 (fun w' => Below w4.heap.size w4 w' ∧ w'.cell? ⟨w.heap.size, 0, none⟩ = some (.slice A0 n0 c0) ∧ w'.cell? ⟨w.heap.size, 1, none⟩ = some (.slice B0 m0 d0) ∧ w'.cell? ⟨w.heap.size + 1, 0, none⟩ = some (.slice A1 n1 c1) ∧ w'.cell? ⟨w.heap.size + 1, 1, none⟩ = some (.slice B1 m1 d1))
        (first
          | exact ⟨(Below.refl _ _).drew, e00, e01, e10, e11⟩
          | assumption
          | (obtain ⟨hq1, p0, p1, p2, p3⟩ := (show Below w4.heap.size w4 _ ∧ World.cell? _ ⟨w.heap.size, 0, none⟩ = some (.slice A0 n0 c0) ∧ World.cell? _ ⟨w.heap.size, 1, none⟩ = some (.slice B0 m0 d0) ∧ World.cell? _ ⟨w.heap.size + 1, 0, none⟩ = some (.slice A1 n1 c1) ∧ World.cell? _ ⟨w.heap.size + 1, 1, none⟩ = some (.slice B1 m1 d1) from by assumption)
             exact ⟨below_mid hq1 hbs hq1.size, (hbs.cell (World.block_lt_of_cell? _ _ p0)).trans p0, (hbs.cell (World.block_lt_of_cell? _ _ p1)).trans p1, (hbs.cell (World.block_lt_of_cell? _ _ p2)).trans p2, (hbs.cell (World.block_lt_of_cell? _ _ p3)).trans p3⟩)
          | (obtain ⟨hq1, p0, p1, p2, p3⟩ := (show Below w4.heap.size w4 _ ∧ World.cell? _ ⟨w.heap.size, 0, none⟩ = some (.slice A0 n0 c0) ∧ World.cell? _ ⟨w.heap.size, 1, none⟩ = some (.slice B0 m0 d0) ∧ World.cell? _ ⟨w.heap.size + 1, 0, none⟩ = some (.slice A1 n1 c1) ∧ World.cell? _ ⟨w.heap.size + 1, 1, none⟩ = some (.slice B1 m1 d1) from by assumption)
             exact ⟨below_mid hq1 hba hq1.size, (hba.cell (World.block_lt_of_cell? _ _ p0)).trans p0, (hba.cell (World.block_lt_of_cell? _ _ p1)).trans p1, (hba.cell (World.block_lt_of_cell? _ _ p2)).trans p2, (hba.cell (World.block_lt_of_cell? _ _ p3)).trans p3⟩)
          | (obtain ⟨hq1, p0, p1, p2, p3⟩ := (show Below w4.heap.size w4 _ ∧ World.cell? _ ⟨w.heap.size, 0, none⟩ = some (.slice A0 n0 c0) ∧ World.cell? _ ⟨w.heap.size, 1, none⟩ = some (.slice B0 m0 d0) ∧ World.cell? _ ⟨w.heap.size + 1, 0, none⟩ = some (.slice A1 n1 c1) ∧ World.cell? _ ⟨w.heap.size + 1, 1, none⟩ = some (.slice B1 m1 d1) from by assumption)
             exact ⟨below_mid hq1 hbb hq1.size, (hbb.cell (World.block_lt_of_cell? _ _ p0)).trans p0, (hbb.cell (World.block_lt_of_cell? _ _ p1)).trans p1, (hbb.cell (World.block_lt_of_cell? _ _ p2)).trans p2, (hbb.cell (World.block_lt_of_cell? _ _ p3)).trans p3⟩)
          | trace_state)
        (first
          | (go_at_call_of 11 (Value.agg #[.slice A0 n0 c0, .slice B0 m0 d0]); refine (toScript_any A0 n0 c0 s0 B0 m0 d0 x0 _ (S0.below (K4.trans ((show Below w4.heap.size w4 _ ∧ World.cell? _ ⟨w.heap.size, 0, none⟩ = some (.slice A0 n0 c0) ∧ World.cell? _ ⟨w.heap.size, 1, none⟩ = some (.slice B0 m0 d0) ∧ World.cell? _ ⟨w.heap.size + 1, 0, none⟩ = some (.slice A1 n1 c1) ∧ World.cell? _ ⟨w.heap.size + 1, 1, none⟩ = some (.slice B1 m1 d1) from by assumption).1.mono K4.size))) (T0.below (K4.trans ((show Below w4.heap.size w4 _ ∧ World.cell? _ ⟨w.heap.size, 0, none⟩ = some (.slice A0 n0 c0) ∧ World.cell? _ ⟨w.heap.size, 1, none⟩ = some (.slice B0 m0 d0) ∧ World.cell? _ ⟨w.heap.size + 1, 0, none⟩ = some (.slice A1 n1 c1) ∧ World.cell? _ ⟨w.heap.size + 1, 1, none⟩ = some (.slice B1 m1 d1) from by assumption).1.mono K4.size))) (by omega) (by omega)).mono ?_; rintro r w5 ⟨ga, ha, rfl, _, oa1, oa2, hba⟩)
          | (go_at_call_of 11 (Value.agg #[.slice A1 n1 c1, .slice B1 m1 d1]); refine (toScript_any A1 n1 c1 s1 B1 m1 d1 x1 _ (S1.below (K4.trans ((show Below w4.heap.size w4 _ ∧ World.cell? _ ⟨w.heap.size, 0, none⟩ = some (.slice A0 n0 c0) ∧ World.cell? _ ⟨w.heap.size, 1, none⟩ = some (.slice B0 m0 d0) ∧ World.cell? _ ⟨w.heap.size + 1, 0, none⟩ = some (.slice A1 n1 c1) ∧ World.cell? _ ⟨w.heap.size + 1, 1, none⟩ = some (.slice B1 m1 d1) from by assumption).1.mono K4.size))) (T1.below (K4.trans ((show Below w4.heap.size w4 _ ∧ World.cell? _ ⟨w.heap.size, 0, none⟩ = some (.slice A0 n0 c0) ∧ World.cell? _ ⟨w.heap.size, 1, none⟩ = some (.slice B0 m0 d0) ∧ World.cell? _ ⟨w.heap.size + 1, 0, none⟩ = some (.slice A1 n1 c1) ∧ World.cell? _ ⟨w.heap.size + 1, 1, none⟩ = some (.slice B1 m1 d1) from by assumption).1.mono K4.size))) (by omega) (by omega)).mono ?_; rintro r w6 ⟨gb, hb, rfl, _, ob1, ob2, hbb⟩)
          | (go_at_call 16; refine (specSameScript_any _ n0 n0 s0 _ m0 m0 x0 _ n1 n1 s1 _ m1 m1 x1 _ (by first | exact (oa1.below hbb).sl eS_len | exact oa1.sl eS_len) (by first | exact (oa2.below hbb).sl eAct_len | exact oa2.sl eAct_len) (by first | exact (ob1.below hba).sl eS_len | exact ob1.sl eS_len) (by first | exact (ob2.below hba).sl eAct_len | exact ob2.sl eAct_len) (by omega) (by omega) (by omega) (by omega)).mono ?_; rintro r w7 ⟨rfl, hbs⟩))
      all_goals (
        have hq := (show Below w4.heap.size w4 _ ∧ World.cell? _ ⟨w.heap.size, 0, none⟩ = some (.slice A0 n0 c0) ∧ World.cell? _ ⟨w.heap.size, 1, none⟩ = some (.slice B0 m0 d0) ∧ World.cell? _ ⟨w.heap.size + 1, 0, none⟩ = some (.slice A1 n1 c1) ∧ World.cell? _ ⟨w.heap.size + 1, 1, none⟩ = some (.slice B1 m1 d1) from by assumption)
        obtain ⟨hb47, e00, e01, e10, e11⟩ := hq
        have K7 := K4.trans (hb47.mono K4.size)
        go_wp2_with fail
        refine (toScript_any A0 n0 c0 s0 B0 m0 d0 x0 _ (S0.below K7) (T0.below K7) (by omega) (by omega)).mono ?_; rintro r w8 ⟨g1, g2, rfl, _, o11, o12, hb8⟩
        replace e00 := (hb8.cell (World.block_lt_of_cell? _ _ e00)).trans e00
        replace e01 := (hb8.cell (World.block_lt_of_cell? _ _ e01)).trans e01
        replace e10 := (hb8.cell (World.block_lt_of_cell? _ _ e10)).trans e10
        replace e11 := (hb8.cell (World.block_lt_of_cell? _ _ e11)).trans e11
        have K8 := below_step K7 hb8
        have e10' := cell_al e10
        have e11' := cell_al e11
        go_wp2_with fail
        have K9 := K8.alloc K8.size (.cells #[.slice (some ⟨g1, 0, none⟩) n0 n0, .slice (some ⟨g2, 0, none⟩) m0 m0] 29)
        have b89 := below_alloc w8 (.cells #[.slice (some ⟨g1, 0, none⟩) n0 n0, .slice (some ⟨g2, 0, none⟩) m0 m0] 29)
        have y00 : (w8.alloc (.cells #[.slice (some ⟨g1, 0, none⟩) n0 n0, .slice (some ⟨g2, 0, none⟩) m0 m0] 29)).cell? ⟨w8.heap.size, 0, none⟩ = some (.slice (some ⟨g1, 0, none⟩) n0 n0) := by simp [go_sem]
        have y01 : (w8.alloc (.cells #[.slice (some ⟨g1, 0, none⟩) n0 n0, .slice (some ⟨g2, 0, none⟩) m0 m0] 29)).cell? ⟨w8.heap.size, 1, none⟩ = some (.slice (some ⟨g2, 0, none⟩) m0 m0) := by simp [go_sem]
        clear e10' e11'
        replace o11 := o11.below b89
        replace o12 := o12.below b89
        replace e00 := (b89.cell (World.block_lt_of_cell? _ _ e00)).trans e00
        replace e01 := (b89.cell (World.block_lt_of_cell? _ _ e01)).trans e01
        replace e10 := (b89.cell (World.block_lt_of_cell? _ _ e10)).trans e10
        replace e11 := (b89.cell (World.block_lt_of_cell? _ _ e11)).trans e11
        generalize hx8 : w8.heap.size = x8 at y00 y01 ⊢
        clear hx8 b89
        generalize w8.alloc (.cells #[.slice (some ⟨g1, 0, none⟩) n0 n0, .slice (some ⟨g2, 0, none⟩) m0 m0] 29) = w9 at K9 y00 y01 o11 o12 e00 e01 e10 e11 ⊢
        refine (toScript_any A1 n1 c1 s1 B1 m1 d1 x1 _ (S1.below K9) (T1.below K9) (by omega) (by omega)).mono ?_; rintro r w10 ⟨g3, g4, rfl, _, o31, o32, hb10⟩
        have K10 := below_step K9 hb10
        replace e00 := (hb10.cell (World.block_lt_of_cell? _ _ e00)).trans e00
        replace e01 := (hb10.cell (World.block_lt_of_cell? _ _ e01)).trans e01
        replace e10 := (hb10.cell (World.block_lt_of_cell? _ _ e10)).trans e10
        replace e11 := (hb10.cell (World.block_lt_of_cell? _ _ e11)).trans e11
        replace y00 := (hb10.cell (World.block_lt_of_cell? _ _ y00)).trans y00
        replace y01 := (hb10.cell (World.block_lt_of_cell? _ _ y01)).trans y01
        replace o11 := o11.below hb10
        replace o12 := o12.below hb10
        have y00' := cell_al y00
        have y01' := cell_al y01
        go_wp2_with fail
        have K11 := K10.alloc K10.size (.cells #[.slice (some ⟨g3, 0, none⟩) n1 n1, .slice (some ⟨g4, 0, none⟩) m1 m1] 29)
        have b1011 := below_alloc w10 (.cells #[.slice (some ⟨g3, 0, none⟩) n1 n1, .slice (some ⟨g4, 0, none⟩) m1 m1] 29)
        have z00 : (w10.alloc (.cells #[.slice (some ⟨g3, 0, none⟩) n1 n1, .slice (some ⟨g4, 0, none⟩) m1 m1] 29)).cell? ⟨w10.heap.size, 0, none⟩ = some (.slice (some ⟨g3, 0, none⟩) n1 n1) := by simp [go_sem]
        have z01 : (w10.alloc (.cells #[.slice (some ⟨g3, 0, none⟩) n1 n1, .slice (some ⟨g4, 0, none⟩) m1 m1] 29)).cell? ⟨w10.heap.size, 1, none⟩ = some (.slice (some ⟨g4, 0, none⟩) m1 m1) := by simp [go_sem]
        clear y00' y01'
        replace o11 := o11.below b1011
        replace o12 := o12.below b1011
        replace o31 := o31.below b1011
        replace o32 := o32.below b1011
        replace e00 := (b1011.cell (World.block_lt_of_cell? _ _ e00)).trans e00
        replace e01 := (b1011.cell (World.block_lt_of_cell? _ _ e01)).trans e01
        replace e10 := (b1011.cell (World.block_lt_of_cell? _ _ e10)).trans e10
        replace e11 := (b1011.cell (World.block_lt_of_cell? _ _ e11)).trans e11
        replace y00 := (b1011.cell (World.block_lt_of_cell? _ _ y00)).trans y00
        replace y01 := (b1011.cell (World.block_lt_of_cell? _ _ y01)).trans y01
        generalize hx10 : w10.heap.size = x10 at z00 z01 ⊢
        clear hx10 b1011
        generalize w10.alloc (.cells #[.slice (some ⟨g3, 0, none⟩) n1 n1, .slice (some ⟨g4, 0, none⟩) m1 m1] 29) = w11 at K11 y00 y01 z00 z01 o11 o12 o31 o32 e00 e01 e10 e11 ⊢
        refine (implSameScript_any _ n0 n0 s0 _ m0 m0 x0 _ n1 n1 s1 _ m1 m1 x1 _ (o11.sl eS_len) (o12.sl eAct_len) (o31.sl eS_len) (o32.sl eAct_len) (by omega) (by omega) (by omega) (by omega)).mono ?_
        rintro r w12 ⟨rfl, hb12⟩
        have K12 := below_step K11 hb12
        replace e00 := (hb12.cell (World.block_lt_of_cell? _ _ e00)).trans e00
        replace e01 := (hb12.cell (World.block_lt_of_cell? _ _ e01)).trans e01
        replace e10 := (hb12.cell (World.block_lt_of_cell? _ _ e10)).trans e10
        replace e11 := (hb12.cell (World.block_lt_of_cell? _ _ e11)).trans e11
        replace y00 := (hb12.cell (World.block_lt_of_cell? _ _ y00)).trans y00
        replace y01 := (hb12.cell (World.block_lt_of_cell? _ _ y01)).trans y01
        replace z00 := (hb12.cell (World.block_lt_of_cell? _ _ z00)).trans z00
        replace z01 := (hb12.cell (World.block_lt_of_cell? _ _ z01)).trans z01
        replace o11 := o11.below hb12
        replace o12 := o12.below hb12
        replace o31 := o31.below hb12
        replace o32 := o32.below hb12
        go_wp2_with fail
        go_region_held3 (fun w' => Below w12.heap.size w12 w' ∧ w'.cell? ⟨x8, 0, none⟩ = some (.slice (some ⟨g1, 0, none⟩) n0 n0) ∧ w'.cell? ⟨x8, 1, none⟩ = some (.slice (some ⟨g2, 0, none⟩) m0 m0) ∧ w'.cell? ⟨w.heap.size, 0, none⟩ = some (.slice A0 n0 c0) ∧ w'.cell? ⟨w.heap.size, 1, none⟩ = some (.slice B0 m0 d0))
          (first
            | exact ⟨(Below.refl _ _).drew, y00, y01, e00, e01⟩
            | assumption
            | (obtain ⟨hq1, p0, p1, p2, p3⟩ := (show Below w12.heap.size w12 _ ∧ World.cell? _ ⟨x8, 0, none⟩ = some (.slice (some ⟨g1, 0, none⟩) n0 n0) ∧ World.cell? _ ⟨x8, 1, none⟩ = some (.slice (some ⟨g2, 0, none⟩) m0 m0) ∧ World.cell? _ ⟨w.heap.size, 0, none⟩ = some (.slice A0 n0 c0) ∧ World.cell? _ ⟨w.heap.size, 1, none⟩ = some (.slice B0 m0 d0) from by assumption)
               exact ⟨below_mid hq1 hbd hq1.size, (hbd.cell (World.block_lt_of_cell? _ _ p0)).trans p0, (hbd.cell (World.block_lt_of_cell? _ _ p1)).trans p1, (hbd.cell (World.block_lt_of_cell? _ _ p2)).trans p2, (hbd.cell (World.block_lt_of_cell? _ _ p3)).trans p3⟩)
            | (obtain ⟨hq1, p0, p1, p2, p3⟩ := (show Below w12.heap.size w12 _ ∧ World.cell? _ ⟨x8, 0, none⟩ = some (.slice (some ⟨g1, 0, none⟩) n0 n0) ∧ World.cell? _ ⟨x8, 1, none⟩ = some (.slice (some ⟨g2, 0, none⟩) m0 m0) ∧ World.cell? _ ⟨w.heap.size, 0, none⟩ = some (.slice A0 n0 c0) ∧ World.cell? _ ⟨w.heap.size, 1, none⟩ = some (.slice B0 m0 d0) from by assumption)
               exact ⟨below_mid hq1 hbc hq1.size, (hbc.cell (World.block_lt_of_cell? _ _ p0)).trans p0, (hbc.cell (World.block_lt_of_cell? _ _ p1)).trans p1, (hbc.cell (World.block_lt_of_cell? _ _ p2)).trans p2, (hbc.cell (World.block_lt_of_cell? _ _ p3)).trans p3⟩)
            | trace_state)
          (first
            | (go_at_call 11; refine (toScript_any A0 n0 c0 s0 B0 m0 d0 x0 _ (S0.below (K12.trans ((show Below w12.heap.size w12 _ ∧ World.cell? _ ⟨x8, 0, none⟩ = some (.slice (some ⟨g1, 0, none⟩) n0 n0) ∧ World.cell? _ ⟨x8, 1, none⟩ = some (.slice (some ⟨g2, 0, none⟩) m0 m0) ∧ World.cell? _ ⟨w.heap.size, 0, none⟩ = some (.slice A0 n0 c0) ∧ World.cell? _ ⟨w.heap.size, 1, none⟩ = some (.slice B0 m0 d0) from by assumption).1.mono K12.size))) (T0.below (K12.trans ((show Below w12.heap.size w12 _ ∧ World.cell? _ ⟨x8, 0, none⟩ = some (.slice (some ⟨g1, 0, none⟩) n0 n0) ∧ World.cell? _ ⟨x8, 1, none⟩ = some (.slice (some ⟨g2, 0, none⟩) m0 m0) ∧ World.cell? _ ⟨w.heap.size, 0, none⟩ = some (.slice A0 n0 c0) ∧ World.cell? _ ⟨w.heap.size, 1, none⟩ = some (.slice B0 m0 d0) from by assumption).1.mono K12.size))) (by omega) (by omega)).mono ?_; rintro r w13 ⟨g5, g6, rfl, _, o51, o52, hbc⟩)
            | (go_at_call 13; refine (eqScript_any _ n0 n0 s0 _ m0 m0 x0 _ n0 n0 s0 _ m0 m0 x0 _ ((o11.below ((show Below w12.heap.size w12 _ ∧ World.cell? _ ⟨x8, 0, none⟩ = some (.slice (some ⟨g1, 0, none⟩) n0 n0) ∧ World.cell? _ ⟨x8, 1, none⟩ = some (.slice (some ⟨g2, 0, none⟩) m0 m0) ∧ World.cell? _ ⟨w.heap.size, 0, none⟩ = some (.slice A0 n0 c0) ∧ World.cell? _ ⟨w.heap.size, 1, none⟩ = some (.slice B0 m0 d0) from by assumption).1)).sl eS_len) ((o12.below ((show Below w12.heap.size w12 _ ∧ World.cell? _ ⟨x8, 0, none⟩ = some (.slice (some ⟨g1, 0, none⟩) n0 n0) ∧ World.cell? _ ⟨x8, 1, none⟩ = some (.slice (some ⟨g2, 0, none⟩) m0 m0) ∧ World.cell? _ ⟨w.heap.size, 0, none⟩ = some (.slice A0 n0 c0) ∧ World.cell? _ ⟨w.heap.size, 1, none⟩ = some (.slice B0 m0 d0) from by assumption).1)).sl eAct_len) (o51.sl eS_len) (o52.sl eAct_len) (by omega) (by omega) (by omega) (by omega)).mono ?_; rintro r w14 ⟨rfl, hbd⟩))
        obtain ⟨hb1214, y00, y01, e00, e01⟩ := (show Below w12.heap.size w12 _ ∧ World.cell? _ ⟨x8, 0, none⟩ = some (.slice (some ⟨g1, 0, none⟩) n0 n0) ∧ World.cell? _ ⟨x8, 1, none⟩ = some (.slice (some ⟨g2, 0, none⟩) m0 m0) ∧ World.cell? _ ⟨w.heap.size, 0, none⟩ = some (.slice A0 n0 c0) ∧ World.cell? _ ⟨w.heap.size, 1, none⟩ = some (.slice B0 m0 d0) from by assumption)
        have K14 := K12.trans (hb1214.mono K12.size)
        replace z00 := (hb1214.cell (World.block_lt_of_cell? _ _ z00)).trans z00
        replace z01 := (hb1214.cell (World.block_lt_of_cell? _ _ z01)).trans z01
        replace e10 := (hb1214.cell (World.block_lt_of_cell? _ _ e10)).trans e10
        replace e11 := (hb1214.cell (World.block_lt_of_cell? _ _ e11)).trans e11
        replace o31 := o31.below hb1214
        replace o32 := o32.below hb1214
        clear y00 y01 e00 e01 hb12
        go_wp2_with fail
        go_region_held3 (fun w' => Below w14.heap.size w14 w' ∧ w'.cell? ⟨x10, 0, none⟩ = some (.slice (some ⟨g3, 0, none⟩) n1 n1) ∧ w'.cell? ⟨x10, 1, none⟩ = some (.slice (some ⟨g4, 0, none⟩) m1 m1) ∧ w'.cell? ⟨w.heap.size + 1, 0, none⟩ = some (.slice A1 n1 c1) ∧ w'.cell? ⟨w.heap.size + 1, 1, none⟩ = some (.slice B1 m1 d1))
          (first
            | exact ⟨(Below.refl _ _).drew, z00, z01, e10, e11⟩
            | assumption
            | (obtain ⟨hq1, p0, p1, p2, p3⟩ := (show Below w14.heap.size w14 _ ∧ World.cell? _ ⟨x10, 0, none⟩ = some (.slice (some ⟨g3, 0, none⟩) n1 n1) ∧ World.cell? _ ⟨x10, 1, none⟩ = some (.slice (some ⟨g4, 0, none⟩) m1 m1) ∧ World.cell? _ ⟨w.heap.size + 1, 0, none⟩ = some (.slice A1 n1 c1) ∧ World.cell? _ ⟨w.heap.size + 1, 1, none⟩ = some (.slice B1 m1 d1) from by assumption)
               exact ⟨below_mid hq1 hbf hq1.size, (hbf.cell (World.block_lt_of_cell? _ _ p0)).trans p0, (hbf.cell (World.block_lt_of_cell? _ _ p1)).trans p1, (hbf.cell (World.block_lt_of_cell? _ _ p2)).trans p2, (hbf.cell (World.block_lt_of_cell? _ _ p3)).trans p3⟩)
            | (obtain ⟨hq1, p0, p1, p2, p3⟩ := (show Below w14.heap.size w14 _ ∧ World.cell? _ ⟨x10, 0, none⟩ = some (.slice (some ⟨g3, 0, none⟩) n1 n1) ∧ World.cell? _ ⟨x10, 1, none⟩ = some (.slice (some ⟨g4, 0, none⟩) m1 m1) ∧ World.cell? _ ⟨w.heap.size + 1, 0, none⟩ = some (.slice A1 n1 c1) ∧ World.cell? _ ⟨w.heap.size + 1, 1, none⟩ = some (.slice B1 m1 d1) from by assumption)
               exact ⟨below_mid hq1 hbe hq1.size, (hbe.cell (World.block_lt_of_cell? _ _ p0)).trans p0, (hbe.cell (World.block_lt_of_cell? _ _ p1)).trans p1, (hbe.cell (World.block_lt_of_cell? _ _ p2)).trans p2, (hbe.cell (World.block_lt_of_cell? _ _ p3)).trans p3⟩)
            | trace_state)
          (first
            | (go_at_call 11; refine (toScript_any A1 n1 c1 s1 B1 m1 d1 x1 _ (S1.below (K14.trans ((show Below w14.heap.size w14 _ ∧ World.cell? _ ⟨x10, 0, none⟩ = some (.slice (some ⟨g3, 0, none⟩) n1 n1) ∧ World.cell? _ ⟨x10, 1, none⟩ = some (.slice (some ⟨g4, 0, none⟩) m1 m1) ∧ World.cell? _ ⟨w.heap.size + 1, 0, none⟩ = some (.slice A1 n1 c1) ∧ World.cell? _ ⟨w.heap.size + 1, 1, none⟩ = some (.slice B1 m1 d1) from by assumption).1.mono K14.size))) (T1.below (K14.trans ((show Below w14.heap.size w14 _ ∧ World.cell? _ ⟨x10, 0, none⟩ = some (.slice (some ⟨g3, 0, none⟩) n1 n1) ∧ World.cell? _ ⟨x10, 1, none⟩ = some (.slice (some ⟨g4, 0, none⟩) m1 m1) ∧ World.cell? _ ⟨w.heap.size + 1, 0, none⟩ = some (.slice A1 n1 c1) ∧ World.cell? _ ⟨w.heap.size + 1, 1, none⟩ = some (.slice B1 m1 d1) from by assumption).1.mono K14.size))) (by omega) (by omega)).mono ?_; rintro r w15 ⟨g7, g8, rfl, _, o71, o72, hbe⟩)
            | (go_at_call 13; refine (eqScript_any _ n1 n1 s1 _ m1 m1 x1 _ n1 n1 s1 _ m1 m1 x1 _ ((o31.below (show Below w14.heap.size w14 _ ∧ World.cell? _ ⟨x10, 0, none⟩ = some (.slice (some ⟨g3, 0, none⟩) n1 n1) ∧ World.cell? _ ⟨x10, 1, none⟩ = some (.slice (some ⟨g4, 0, none⟩) m1 m1) ∧ World.cell? _ ⟨w.heap.size + 1, 0, none⟩ = some (.slice A1 n1 c1) ∧ World.cell? _ ⟨w.heap.size + 1, 1, none⟩ = some (.slice B1 m1 d1) from by assumption).1).sl eS_len) ((o32.below (show Below w14.heap.size w14 _ ∧ World.cell? _ ⟨x10, 0, none⟩ = some (.slice (some ⟨g3, 0, none⟩) n1 n1) ∧ World.cell? _ ⟨x10, 1, none⟩ = some (.slice (some ⟨g4, 0, none⟩) m1 m1) ∧ World.cell? _ ⟨w.heap.size + 1, 0, none⟩ = some (.slice A1 n1 c1) ∧ World.cell? _ ⟨w.heap.size + 1, 1, none⟩ = some (.slice B1 m1 d1) from by assumption).1).sl eAct_len) (o71.sl eS_len) (o72.sl eAct_len) (by omega) (by omega) (by omega) (by omega)).mono ?_; rintro r w16 ⟨rfl, hbf⟩))
        obtain ⟨hb1416, z00, z01, e10, e11⟩ := (show Below w14.heap.size w14 _ ∧ World.cell? _ ⟨x10, 0, none⟩ = some (.slice (some ⟨g3, 0, none⟩) n1 n1) ∧ World.cell? _ ⟨x10, 1, none⟩ = some (.slice (some ⟨g4, 0, none⟩) m1 m1) ∧ World.cell? _ ⟨w.heap.size + 1, 0, none⟩ = some (.slice A1 n1 c1) ∧ World.cell? _ ⟨w.heap.size + 1, 1, none⟩ = some (.slice B1 m1 d1) from by assumption)
        go_wp2_with fail
        go_ret
        exact ⟨rfl, K14.trans (hb1416.mono K14.size)⟩)

end Go.Proofs.Ytcpbdikdghhblaa
