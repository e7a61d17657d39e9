/-
  Scripts: an act that is added: the reference.
-/
import Derived.Test.YthplfodfilefjaaDoorAdA
import Derived.Test.YthplfodfilefjaaDoorBInt
import Derived.Deep.RegionLaw
namespace Go.Proofs.YthplfodfilefjaaDoor
set_option maxRecDepth 100000
open Go.RowKit Go.Deep Go.Joins

set_option maxHeartbeats 4000000 in
set_option maxRecDepth 100000 in
theorem l18Act_show (base sb : Nat) (ss : List ByteArray) (xs : List AX) (a : AX) (w : World) (H : BX w base sb ss xs) (hl : ss.length ≤ 60) (hl2 : xs.length ≤ 60) (qw : wdB a = true)
    (w1 : (a.2.1.toList == [115, 104, 111, 119]) = true) (_w2 : (a.2.1.toList == [104, 105, 100, 101]) = false) (w3 : (a.2.1.toList == [116, 117, 114, 110]) = false) :
    Calls Tryd.prog 40 #[.pointer (some ⟨sb, 0, none⟩), .agg #[.int .i64 a.1, .string a.2.1, .string a.2.2.1, .int .i64 a.2.2.2]] w fun e w' => e = .returned (.int .i64 (acCode ss xs a)) ∧ BX w' base sb ss (acNext ss xs a) ∧ Below base w w' := by
  obtain ⟨i0, hi0, hz0, hz1, hz2⟩ := info_parts infoAct
  have HX := H
  obtain ⟨A, c, B, d, H⟩ := H
  have c0 := H.c0
  have c1 := H.c1
  have hbl := H.base_le
  have S : Hid (shB a = true) := w1
  have T : Hid (tuB a = false) := w3
  have W := Lib.hid qw
  clear qw
  have HB := H.below (below_alloc w (.cells #[.int .i64 a.1, .string a.2.1, .string a.2.2.1, .int .i64 a.2.2.2] 56))
  have HXB := HX.below (below_alloc w (.cells #[.int .i64 a.1, .string a.2.1, .string a.2.2.1, .int .i64 a.2.2.2] 56))
  have hW : Below base w (w.alloc (.cells #[.int .i64 a.1, .string a.2.1, .string a.2.2.1, .int .i64 a.2.2.2] 56)) := below_al hbl _
  have e0 : (w.alloc (.cells #[.int .i64 a.1, .string a.2.1, .string a.2.2.1, .int .i64 a.2.2.2] 56)).cell? ⟨w.heap.size, 0, none⟩ = some (.int .i64 a.1) := by simp [go_sem]
  have e1 : (w.alloc (.cells #[.int .i64 a.1, .string a.2.1, .string a.2.2.1, .int .i64 a.2.2.2] 56)).cell? ⟨w.heap.size, 1, none⟩ = some (.string a.2.1) := by simp [go_sem]
  have e2 : (w.alloc (.cells #[.int .i64 a.1, .string a.2.1, .string a.2.2.1, .int .i64 a.2.2.2] 56)).cell? ⟨w.heap.size, 2, none⟩ = some (.string a.2.2.1) := by simp [go_sem]
  have e3 : (w.alloc (.cells #[.int .i64 a.1, .string a.2.1, .string a.2.2.1, .int .i64 a.2.2.2] 56)).cell? ⟨w.heap.size, 3, none⟩ = some (.int .i64 a.2.2.2) := by simp [go_sem]
  have c0a := HB.c0
  have c1a := HB.c1
  go_enter Tryd.func40, Tryd.ntmps40
  go_wp2_with fail
  have qw := W.out
  clear c0 c1 c0a c1a
  generalize (w.alloc (.cells #[.int .i64 a.1, .string a.2.1, .string a.2.2.1, .int .i64 a.2.2.2] 56)) = W1 at HB HXB hW e0 e1 e2 e3 ⊢
  have c0 := HB.c0
  have c1 := HB.c1
  cases q2 : hasB ss a.2.2.1
  · have HC : Hid (acCode ss xs a = 6) := by rw [Hid, acCode, if_neg (by rw [qw]; decide), if_pos q2]
    have HN : Hid (acNext ss xs a = xs) := by rw [Hid, acNext, if_neg (by rw [HC.out]; decide)]
    have hcl : ∀ n, Calls Tryd.prog 54 #[.slice A ss.length c, .string a.2.2.1] (W1.drewN n) fun e w' => e = .returned (.bool (hasB ss a.2.2.1)) ∧ W1.drewN n = w' := fun n => l18Has_any A _ c ss a.2.2.1 (W1.drewN n) (HB.o1.sl eS_len) (by omega)
    rw [q2] at hcl
    go_quiet ((go_at_call 54; exact quiet_left (hcl _)))
    clear hcl
    replace HB := HB.below (w' := W1.drewN nq) (below_drewN (Below.refl _ _) nq)
    replace HXB := HXB.below (w' := W1.drewN nq) (below_drewN (Below.refl _ _) nq)
    replace hW := below_drewN hW nq
    replace e0 : (W1.drewN nq).cell? ⟨w.heap.size, 0, none⟩ = some (.int .i64 a.1) := e0
    replace e1 : (W1.drewN nq).cell? ⟨w.heap.size, 1, none⟩ = some (.string a.2.1) := e1
    replace e2 : (W1.drewN nq).cell? ⟨w.heap.size, 2, none⟩ = some (.string a.2.2.1) := e2
    replace e3 : (W1.drewN nq).cell? ⟨w.heap.size, 3, none⟩ = some (.int .i64 a.2.2.2) := e3
    replace c0 := HB.c0
    replace c1 := HB.c1
    generalize W1.drewN nq = W2 at HB HXB hW e0 e1 e2 e3 c0 c1 ⊢
    go_wp2_with fail
    go_ret
    exact ⟨ret_int HC.out.symm, HN.out.symm ▸ HXB, hW⟩
  · have hcl : ∀ n, Calls Tryd.prog 54 #[.slice A ss.length c, .string a.2.2.1] (W1.drewN n) fun e w' => e = .returned (.bool (hasB ss a.2.2.1)) ∧ W1.drewN n = w' := fun n => l18Has_any A _ c ss a.2.2.1 (W1.drewN n) (HB.o1.sl eS_len) (by omega)
    rw [q2] at hcl
    go_quiet ((go_at_call 54; exact quiet_left (hcl _)))
    clear hcl
    replace HB := HB.below (w' := W1.drewN nq) (below_drewN (Below.refl _ _) nq)
    replace HXB := HXB.below (w' := W1.drewN nq) (below_drewN (Below.refl _ _) nq)
    replace hW := below_drewN hW nq
    replace e0 : (W1.drewN nq).cell? ⟨w.heap.size, 0, none⟩ = some (.int .i64 a.1) := e0
    replace e1 : (W1.drewN nq).cell? ⟨w.heap.size, 1, none⟩ = some (.string a.2.1) := e1
    replace e2 : (W1.drewN nq).cell? ⟨w.heap.size, 2, none⟩ = some (.string a.2.2.1) := e2
    replace e3 : (W1.drewN nq).cell? ⟨w.heap.size, 3, none⟩ = some (.int .i64 a.2.2.2) := e3
    replace c0 := HB.c0
    replace c1 := HB.c1
    generalize W1.drewN nq = W2 at HB HXB hW e0 e1 e2 e3 c0 c1 ⊢
    go_wp2_with fail
    cases q3 : nuB a
    · have HC : Hid (acCode ss xs a = 4) := by rw [Hid, acCode, if_neg (by rw [qw]; decide), if_neg (by rw [q2]; decide), if_pos q3]
      have HN : Hid (acNext ss xs a = xs) := by rw [Hid, acNext, if_neg (by rw [HC.out]; decide)]
      rcases nu_no q3 with g1 | ⟨g1, g2⟩ | ⟨g1, g2, g3, g4⟩
      · refine (l00In_any _ _ _ _).mono ?_
        rintro e w9 ⟨rfl, rfl⟩
        rw [g1]
        go_wp2_with fail
        go_ret
        exact ⟨ret_int HC.out.symm, HN.out.symm ▸ HXB, hW⟩
      · refine (l00In_any _ _ _ _).mono ?_
        rintro e w9 ⟨rfl, rfl⟩
        rw [g1]
        go_wp2_with fail
        refine (l00In_any _ _ _ _).mono ?_
        rintro e w9 ⟨rfl, rfl⟩
        rw [g2]
        go_wp2_with fail
        go_ret
        exact ⟨ret_int HC.out.symm, HN.out.symm ▸ HXB, hW⟩
      · refine (l00In_any _ _ _ _).mono ?_
        rintro e w9 ⟨rfl, rfl⟩
        rw [g1]
        go_wp2_with fail
        refine (l00In_any _ _ _ _).mono ?_
        rintro e w9 ⟨rfl, rfl⟩
        rw [g2]
        go_wp2_with fail
        go_ret
        exact ⟨ret_int HC.out.symm, HN.out.symm ▸ HXB, hW⟩
    · obtain ⟨g1, g2, g3⟩ := nu_yes q3
      replace g3 : (a.2.2.2 != 0) = false := g3.resolve_right (by rw [T.out]; decide)
      skip
      refine (l00In_any _ _ _ _).mono ?_
      rintro e w9 ⟨rfl, rfl⟩
      rw [g1]
      go_wp2_with fail
      refine (l00In_any _ _ _ _).mono ?_
      rintro e w9 ⟨rfl, rfl⟩
      rw [g2]
      go_wp2_with fail
      by_cases hn0 : xs.length = 0
      · have HG : Hid (gtLast xs a.1 = false) := gtLast_no0 hn0
        have gq : decide ((0 : Int) < (xs.length : Int)) = false := decide_eq_false (by omega)
        have gqN : decide (0 < xs.length) = false := decide_eq_false (by omega)
        replace hn0 := Lib.hid hn0
        go_quiet (fail)
        replace HB := HB.below (w' := W2.drewN nq) (below_drewN (Below.refl _ _) nq)
        replace HXB := HXB.below (w' := W2.drewN nq) (below_drewN (Below.refl _ _) nq)
        replace hW := below_drewN hW nq
        replace e0 : (W2.drewN nq).cell? ⟨w.heap.size, 0, none⟩ = some (.int .i64 a.1) := e0
        replace e1 : (W2.drewN nq).cell? ⟨w.heap.size, 1, none⟩ = some (.string a.2.1) := e1
        replace e2 : (W2.drewN nq).cell? ⟨w.heap.size, 2, none⟩ = some (.string a.2.2.1) := e2
        replace e3 : (W2.drewN nq).cell? ⟨w.heap.size, 3, none⟩ = some (.int .i64 a.2.2.2) := e3
        replace c0 := HB.c0
        replace c1 := HB.c1
        generalize W2.drewN nq = W2 at HB HXB hW e0 e1 e2 e3 c0 c1 ⊢
        clear gq gqN
        go_wp2_with fail
        cases q6 : isSh xs a.2.2.1
        · have hcl : ∀ n, Calls Tryd.prog 55 #[.slice B xs.length d, .string a.2.2.1] (W2.drewN n) fun e w' => e = .returned (.bool (isSh xs a.2.2.1)) ∧ W2.drewN n = w' := fun n => l18Is_any B _ d xs a.2.2.1 (W2.drewN n) (HB.o2.sl eAct_len) (by omega)
          rw [q6] at hcl
          go_quiet ((go_at_call 55; exact quiet_left (hcl _)))
          clear hcl
          replace HB := HB.below (w' := W2.drewN nq) (below_drewN (Below.refl _ _) nq)
          replace HXB := HXB.below (w' := W2.drewN nq) (below_drewN (Below.refl _ _) nq)
          replace hW := below_drewN hW nq
          replace e0 : (W2.drewN nq).cell? ⟨w.heap.size, 0, none⟩ = some (.int .i64 a.1) := e0
          replace e1 : (W2.drewN nq).cell? ⟨w.heap.size, 1, none⟩ = some (.string a.2.1) := e1
          replace e2 : (W2.drewN nq).cell? ⟨w.heap.size, 2, none⟩ = some (.string a.2.2.1) := e2
          replace e3 : (W2.drewN nq).cell? ⟨w.heap.size, 3, none⟩ = some (.int .i64 a.2.2.2) := e3
          replace c0 := HB.c0
          replace c1 := HB.c1
          generalize W2.drewN nq = W2 at HB HXB hW e0 e1 e2 e3 c0 c1 ⊢
          by_cases q7 : 60 ≤ xs.length
          · have HC : Hid (acCode ss xs a = 8) := by rw [Hid, acCode, if_neg (by rw [qw]; decide), if_neg (by rw [q2]; decide), if_neg (by rw [q3]; decide), if_neg (by rw [HG.out]; decide), if_neg (by rw [S.out, q6]; decide), if_pos q7]
            have HN : Hid (acNext ss xs a = xs) := by rw [Hid, acNext, if_neg (by rw [HC.out]; decide)]
            have hf : ((xs.length : Int) == 60) = true := by rw [beq_iff_eq]; omega
            go_wp2_with fail
            go_ret
            exact ⟨ret_int HC.out.symm, HN.out.symm ▸ HXB, hW⟩
          · have HC : Hid (acCode ss xs a = 0) := by rw [Hid, acCode, if_neg (by rw [qw]; decide), if_neg (by rw [q2]; decide), if_neg (by rw [q3]; decide), if_neg (by rw [HG.out]; decide), if_neg (by rw [S.out, q6]; decide), if_neg q7]
            have HN : Hid (acNext ss xs a = xs ++ [a]) := acNext_ok HC.out
            have hf : ((xs.length : Int) == 60) = false := by rw [beq_eq_false_iff_ne]; omega
            have HWp : Bx (W2.alloc (.cells #[.int .i64 a.1, .string a.2.1, .string a.2.2.1, .int .i64 a.2.2.2] 56)).drew base sb A c ss B d xs := (HB.below (below_alloc W2 (.cells #[.int .i64 a.1, .string a.2.1, .string a.2.2.1, .int .i64 a.2.2.2] 56))).below (Below.refl _ _).drew
            have c1a : (W2.alloc (.cells #[.int .i64 a.1, .string a.2.1, .string a.2.2.1, .int .i64 a.2.2.2] 56)).cell? ⟨sb, 1, none⟩ = some (.slice B xs.length d) := HWp.c1
            have hWp : Below base w (W2.alloc (.cells #[.int .i64 a.1, .string a.2.1, .string a.2.2.1, .int .i64 a.2.2.2] 56)).drew := (hW.trans (below_al HB.base_le _)).drew
            go_wp2_with fail
            go_region_law (refine step_app1x (by rfl) (.tmp 90) (.tmp 92) 28 56 (by rfl) base i0 _ 4 48 Tryd.underlying28 hi0 hz0 hz1 hz2 rfl (by decide) eAct eAct_len eAct_one (.slice B xs.length d) xs (by rfl) HWp.o2 a _ _ (by rfl) (newcell _ _ _ _ (by simp)) (by omega) (by unfold maxLen; omega) HWp.base_le ?_; intro v9 w9 ho9 hb9 hg9 hv9; obtain ⟨k0, k1, k2, k3⟩ := HWp.at0 (w' := w9) hg9 HWp.row2; obtain ⟨A9, c9, rfl⟩ := own_form ho9; have el : (xs ++ [a]).length = xs.length + 1 := (by simp); simp only [el] at ho9 hv9)
            all_goals (try go_wp2_with fail)
            all_goals go_ret
            all_goals exact ⟨ret_int HC.out.symm, HN.out.symm ▸ HWp.put1 ho9 hg9 hv9, (hWp.trans hb9).setCell HB.hb _⟩
        · have HC : Hid (acCode ss xs a = 5) := by rw [Hid, acCode, if_neg (by rw [qw]; decide), if_neg (by rw [q2]; decide), if_neg (by rw [q3]; decide), if_neg (by rw [HG.out]; decide), if_pos (by rw [S.out, q6])]
          have HN : Hid (acNext ss xs a = xs) := by rw [Hid, acNext, if_neg (by rw [HC.out]; decide)]
          have hcl : ∀ n, Calls Tryd.prog 55 #[.slice B xs.length d, .string a.2.2.1] (W2.drewN n) fun e w' => e = .returned (.bool (isSh xs a.2.2.1)) ∧ W2.drewN n = w' := fun n => l18Is_any B _ d xs a.2.2.1 (W2.drewN n) (HB.o2.sl eAct_len) (by omega)
          rw [q6] at hcl
          go_quiet ((go_at_call 55; exact quiet_left (hcl _)))
          clear hcl
          replace HB := HB.below (w' := W2.drewN nq) (below_drewN (Below.refl _ _) nq)
          replace HXB := HXB.below (w' := W2.drewN nq) (below_drewN (Below.refl _ _) nq)
          replace hW := below_drewN hW nq
          replace e0 : (W2.drewN nq).cell? ⟨w.heap.size, 0, none⟩ = some (.int .i64 a.1) := e0
          replace e1 : (W2.drewN nq).cell? ⟨w.heap.size, 1, none⟩ = some (.string a.2.1) := e1
          replace e2 : (W2.drewN nq).cell? ⟨w.heap.size, 2, none⟩ = some (.string a.2.2.1) := e2
          replace e3 : (W2.drewN nq).cell? ⟨w.heap.size, 3, none⟩ = some (.int .i64 a.2.2.2) := e3
          replace c0 := HB.c0
          replace c1 := HB.c1
          generalize W2.drewN nq = W2 at HB HXB hW e0 e1 e2 e3 c0 c1 ⊢
          go_wp2_with fail
          go_ret
          exact ⟨ret_int HC.out.symm, HN.out.symm ▸ HXB, hW⟩
      · obtain ⟨b, off, y, rfl, hy, hm, d0, d1, d2, d3⟩ := (HB.o2.sl eAct_len).atAct (i := xs.length - 1) (by omega)
        have gq : decide ((0 : Int) < (xs.length : Int)) = true := decide_eq_true (by omega)
        have gqN : decide (0 < xs.length) = true := decide_eq_true (by omega)
        have r1 : IntKind.i64.wrap ((xs.length : Int) - 1) = ((xs.length - 1 : Nat) : Int) := (wr64 (by omega)).trans (by omega)
        have r2 : (0 : Int) ≤ ((xs.length - 1 : Nat) : Int) := by omega
        have r3 : ((xs.length - 1 : Nat) : Int) < (xs.length : Int) := by omega
        have HG2 : Hid (gtLast xs a.1 = decide (a.1 < y.1)) := gtLast_at rfl hy _
        clear hy hm
        cases q5 : decide (a.1 < y.1)
        · have HG : Hid (gtLast xs a.1 = false) := HG2.out.trans q5
          go_quiet (fail)
          replace HB := HB.below (w' := W2.drewN nq) (below_drewN (Below.refl _ _) nq)
          replace HXB := HXB.below (w' := W2.drewN nq) (below_drewN (Below.refl _ _) nq)
          replace hW := below_drewN hW nq
          replace e0 : (W2.drewN nq).cell? ⟨w.heap.size, 0, none⟩ = some (.int .i64 a.1) := e0
          replace e1 : (W2.drewN nq).cell? ⟨w.heap.size, 1, none⟩ = some (.string a.2.1) := e1
          replace e2 : (W2.drewN nq).cell? ⟨w.heap.size, 2, none⟩ = some (.string a.2.2.1) := e2
          replace e3 : (W2.drewN nq).cell? ⟨w.heap.size, 3, none⟩ = some (.int .i64 a.2.2.2) := e3
          replace c0 := HB.c0
          replace c1 := HB.c1
          generalize W2.drewN nq = W2 at HB HXB hW e0 e1 e2 e3 c0 c1 ⊢
          clear gq gqN r1 r2 r3 d0 d1 d2 d3
          go_wp2_with fail
          cases q6 : isSh xs a.2.2.1
          · have hcl : ∀ n, Calls Tryd.prog 55 #[.slice (some ⟨b, off, none⟩) xs.length d, .string a.2.2.1] (W2.drewN n) fun e w' => e = .returned (.bool (isSh xs a.2.2.1)) ∧ W2.drewN n = w' := fun n => l18Is_any _ _ d xs a.2.2.1 (W2.drewN n) (HB.o2.sl eAct_len) (by omega)
            rw [q6] at hcl
            go_quiet ((go_at_call 55; exact quiet_left (hcl _)))
            clear hcl
            replace HB := HB.below (w' := W2.drewN nq) (below_drewN (Below.refl _ _) nq)
            replace HXB := HXB.below (w' := W2.drewN nq) (below_drewN (Below.refl _ _) nq)
            replace hW := below_drewN hW nq
            replace e0 : (W2.drewN nq).cell? ⟨w.heap.size, 0, none⟩ = some (.int .i64 a.1) := e0
            replace e1 : (W2.drewN nq).cell? ⟨w.heap.size, 1, none⟩ = some (.string a.2.1) := e1
            replace e2 : (W2.drewN nq).cell? ⟨w.heap.size, 2, none⟩ = some (.string a.2.2.1) := e2
            replace e3 : (W2.drewN nq).cell? ⟨w.heap.size, 3, none⟩ = some (.int .i64 a.2.2.2) := e3
            replace c0 := HB.c0
            replace c1 := HB.c1
            generalize W2.drewN nq = W2 at HB HXB hW e0 e1 e2 e3 c0 c1 ⊢
            by_cases q7 : 60 ≤ xs.length
            · have HC : Hid (acCode ss xs a = 8) := by rw [Hid, acCode, if_neg (by rw [qw]; decide), if_neg (by rw [q2]; decide), if_neg (by rw [q3]; decide), if_neg (by rw [HG.out]; decide), if_neg (by rw [S.out, q6]; decide), if_pos q7]
              have HN : Hid (acNext ss xs a = xs) := by rw [Hid, acNext, if_neg (by rw [HC.out]; decide)]
              have hf : ((xs.length : Int) == 60) = true := by rw [beq_iff_eq]; omega
              go_wp2_with fail
              go_ret
              exact ⟨ret_int HC.out.symm, HN.out.symm ▸ HXB, hW⟩
            · have HC : Hid (acCode ss xs a = 0) := by rw [Hid, acCode, if_neg (by rw [qw]; decide), if_neg (by rw [q2]; decide), if_neg (by rw [q3]; decide), if_neg (by rw [HG.out]; decide), if_neg (by rw [S.out, q6]; decide), if_neg q7]
              have HN : Hid (acNext ss xs a = xs ++ [a]) := acNext_ok HC.out
              have hf : ((xs.length : Int) == 60) = false := by rw [beq_eq_false_iff_ne]; omega
              have HWp : Bx (W2.alloc (.cells #[.int .i64 a.1, .string a.2.1, .string a.2.2.1, .int .i64 a.2.2.2] 56)).drew base sb A c ss (some ⟨b, off, none⟩) d xs := (HB.below (below_alloc W2 (.cells #[.int .i64 a.1, .string a.2.1, .string a.2.2.1, .int .i64 a.2.2.2] 56))).below (Below.refl _ _).drew
              have c1a : (W2.alloc (.cells #[.int .i64 a.1, .string a.2.1, .string a.2.2.1, .int .i64 a.2.2.2] 56)).cell? ⟨sb, 1, none⟩ = some (.slice (some ⟨b, off, none⟩) xs.length d) := HWp.c1
              have hWp : Below base w (W2.alloc (.cells #[.int .i64 a.1, .string a.2.1, .string a.2.2.1, .int .i64 a.2.2.2] 56)).drew := (hW.trans (below_al HB.base_le _)).drew
              go_wp2_with fail
              go_region_law (refine step_app1x (by rfl) (.tmp 90) (.tmp 92) 28 56 (by rfl) base i0 _ 4 48 Tryd.underlying28 hi0 hz0 hz1 hz2 rfl (by decide) eAct eAct_len eAct_one (.slice (some ⟨b, off, none⟩) xs.length d) xs (by rfl) HWp.o2 a _ _ (by rfl) (newcell _ _ _ _ (by simp)) (by omega) (by unfold maxLen; omega) HWp.base_le ?_; intro v9 w9 ho9 hb9 hg9 hv9; obtain ⟨k0, k1, k2, k3⟩ := HWp.at0 (w' := w9) hg9 HWp.row2; obtain ⟨A9, c9, rfl⟩ := own_form ho9; have el : (xs ++ [a]).length = xs.length + 1 := (by simp); simp only [el] at ho9 hv9)
              all_goals (try go_wp2_with fail)
              all_goals go_ret
              all_goals exact ⟨ret_int HC.out.symm, HN.out.symm ▸ HWp.put1 ho9 hg9 hv9, (hWp.trans hb9).setCell HB.hb _⟩
          · have HC : Hid (acCode ss xs a = 5) := by rw [Hid, acCode, if_neg (by rw [qw]; decide), if_neg (by rw [q2]; decide), if_neg (by rw [q3]; decide), if_neg (by rw [HG.out]; decide), if_pos (by rw [S.out, q6])]
            have HN : Hid (acNext ss xs a = xs) := by rw [Hid, acNext, if_neg (by rw [HC.out]; decide)]
            have hcl : ∀ n, Calls Tryd.prog 55 #[.slice (some ⟨b, off, none⟩) xs.length d, .string a.2.2.1] (W2.drewN n) fun e w' => e = .returned (.bool (isSh xs a.2.2.1)) ∧ W2.drewN n = w' := fun n => l18Is_any _ _ d xs a.2.2.1 (W2.drewN n) (HB.o2.sl eAct_len) (by omega)
            rw [q6] at hcl
            go_quiet ((go_at_call 55; exact quiet_left (hcl _)))
            clear hcl
            replace HB := HB.below (w' := W2.drewN nq) (below_drewN (Below.refl _ _) nq)
            replace HXB := HXB.below (w' := W2.drewN nq) (below_drewN (Below.refl _ _) nq)
            replace hW := below_drewN hW nq
            replace e0 : (W2.drewN nq).cell? ⟨w.heap.size, 0, none⟩ = some (.int .i64 a.1) := e0
            replace e1 : (W2.drewN nq).cell? ⟨w.heap.size, 1, none⟩ = some (.string a.2.1) := e1
            replace e2 : (W2.drewN nq).cell? ⟨w.heap.size, 2, none⟩ = some (.string a.2.2.1) := e2
            replace e3 : (W2.drewN nq).cell? ⟨w.heap.size, 3, none⟩ = some (.int .i64 a.2.2.2) := e3
            replace c0 := HB.c0
            replace c1 := HB.c1
            generalize W2.drewN nq = W2 at HB HXB hW e0 e1 e2 e3 c0 c1 ⊢
            go_wp2_with fail
            go_ret
            exact ⟨ret_int HC.out.symm, HN.out.symm ▸ HXB, hW⟩
        · have HG : Hid (gtLast xs a.1 = true) := HG2.out.trans q5
          have HC : Hid (acCode ss xs a = 7) := by rw [Hid, acCode, if_neg (by rw [qw]; decide), if_neg (by rw [q2]; decide), if_neg (by rw [q3]; decide), if_pos HG.out]
          have HN : Hid (acNext ss xs a = xs) := by rw [Hid, acNext, if_neg (by rw [HC.out]; decide)]
          go_quiet (fail)
          replace HB := HB.below (w' := W2.drewN nq) (below_drewN (Below.refl _ _) nq)
          replace HXB := HXB.below (w' := W2.drewN nq) (below_drewN (Below.refl _ _) nq)
          replace hW := below_drewN hW nq
          replace e0 : (W2.drewN nq).cell? ⟨w.heap.size, 0, none⟩ = some (.int .i64 a.1) := e0
          replace e1 : (W2.drewN nq).cell? ⟨w.heap.size, 1, none⟩ = some (.string a.2.1) := e1
          replace e2 : (W2.drewN nq).cell? ⟨w.heap.size, 2, none⟩ = some (.string a.2.2.1) := e2
          replace e3 : (W2.drewN nq).cell? ⟨w.heap.size, 3, none⟩ = some (.int .i64 a.2.2.2) := e3
          replace c0 := HB.c0
          replace c1 := HB.c1
          generalize W2.drewN nq = W2 at HB HXB hW e0 e1 e2 e3 c0 c1 ⊢
          go_wp2_with fail
          go_ret
          exact ⟨ret_int HC.out.symm, HN.out.symm ▸ HXB, hW⟩

end Go.Proofs.YthplfodfilefjaaDoor
