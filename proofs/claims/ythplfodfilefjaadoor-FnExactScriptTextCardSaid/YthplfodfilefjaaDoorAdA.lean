/-
  Scripts: a slide that is added.
-/
import Derived.Test.YthplfodfilefjaaDoorAd
namespace Go.Proofs.YthplfodfilefjaaDoor
set_option maxRecDepth 100000
open Go.RowKit Go.Deep Go.Joins

set_option maxHeartbeats 1000000 in
theorem addSlide_any (base sb : Nat) (ss : List ByteArray) (xs : List AX) (s : ByteArray) (w : World) (H : BX w base sb ss xs) (hl : ss.length ≤ 60) (hz : s.size ≤ maxLen) :
    Calls Tryd.prog 42 #[.pointer (some ⟨sb, 0, none⟩), .string s] w fun e w' => e = .returned (.int .i64 (slCode ss s)) ∧ BX w' base sb (slNext ss s) xs ∧ Below base w w' := by
  obtain ⟨i0, hi0, hz0, hz1, hz2⟩ := info_parts infoStr
  have HX := H
  obtain ⟨A, c, B, d, H⟩ := H
  have c0 := H.c0
  cases q1 : nmOk s
  · have HC : Hid (slCode ss s = 3) := by rw [Hid, slCode, if_pos q1]
    have HN : Hid (slNext ss s = ss) := by rw [Hid, slNext, if_neg (by rw [HC.out]; decide)]
    rw [HN.out]
    go_enter Tryd.func42, Tryd.ntmps42
    go_wp2_with fail
    refine (implIsName_any s _ hz).mono ?_
    rintro e w2 ⟨rfl, rfl⟩
    rw [q1]
    go_wp2_with fail
    go_ret
    exact ⟨ret_int HC.out.symm, HX, Below.refl _ _⟩
  · cases q2 : hasB ss s
    · by_cases q3 : 60 ≤ ss.length
      · have HC : Hid (slCode ss s = 8) := by rw [Hid, slCode, if_neg (by rw [q1]; decide), if_neg (by rw [q2]; decide), if_pos q3]
        have HN : Hid (slNext ss s = ss) := by rw [Hid, slNext, if_neg (by rw [HC.out]; decide)]
        rw [HN.out]
        go_enter Tryd.func42, Tryd.ntmps42
        go_wp2_with fail
        refine (implIsName_any s _ hz).mono ?_
        rintro e w2 ⟨rfl, rfl⟩
        rw [q1]
        go_wp2_with fail
        refine (hasSlide_any sb A _ c ss s _ c0 (H.o1.sl eS_len) (by omega)).mono ?_
        rintro e w2 ⟨rfl, rfl⟩
        rw [q2]
        have H60 : ss.length = 60 := by omega
        go_wp2_with fail
        go_ret
        exact ⟨ret_int HC.out.symm, HX, Below.refl _ _⟩
      · have HC : Hid (slCode ss s = 0) := by rw [Hid, slCode, if_neg (by rw [q1]; decide), if_neg (by rw [q2]; decide), if_neg q3]
        have HN : Hid (slNext ss s = ss ++ [s]) := slNext_ok HC.out
        have hbl := H.base_le
        have HW := H.below (below_alloc w (.cells #[.string s] 9))
        rw [HN.out]
        go_enter Tryd.func42, Tryd.ntmps42
        go_wp2_with fail
        refine (implIsName_any s _ hz).mono ?_
        rintro e w2 ⟨rfl, rfl⟩
        rw [q1]
        go_wp2_with fail
        refine (hasSlide_any sb A _ c ss s _ c0 (H.o1.sl eS_len) (by omega)).mono ?_
        rintro e w2 ⟨rfl, rfl⟩
        rw [q2]
        have hf : ((ss.length : Int) == 60) = false := by rw [beq_eq_false_iff_ne]; omega
        go_wp2_with (at_builtin; refine wpList_app1x rfl (.tmp 24) (.tmp 26) 22 9 rfl base i0 _ 1 16 Tryd.underlying22 hi0 hz0 hz1 hz2 rfl (by omega) eS eS_len eS_one (.slice A ss.length c) ss rfl HW.o1 s _ _ rfl (newcell _ _ _ _ rfl) (by omega) (by unfold maxLen; omega) HW.base_le ?_; intro v9 w9 ho9 hb9 hg9 hv9; obtain ⟨k0, k1, k2, k3⟩ := HW.at0 hg9 HW.row1; obtain ⟨A9, c9, rfl⟩ := own_form ho9; have el : (ss ++ [s]).length = ss.length + 1 := (by simp); simp only [el] at ho9 hv9)
        go_ret
        exact ⟨ret_int HC.out.symm, HW.put0 ho9 hg9 hv9, ((below_al hbl _).trans hb9).setCell H.hb _⟩
    · have HC : Hid (slCode ss s = 5) := by rw [Hid, slCode, if_neg (by rw [q1]; decide), if_pos q2]
      have HN : Hid (slNext ss s = ss) := by rw [Hid, slNext, if_neg (by rw [HC.out]; decide)]
      rw [HN.out]
      go_enter Tryd.func42, Tryd.ntmps42
      go_wp2_with fail
      refine (implIsName_any s _ hz).mono ?_
      rintro e w2 ⟨rfl, rfl⟩
      rw [q1]
      go_wp2_with fail
      refine (hasSlide_any sb A _ c ss s _ c0 (H.o1.sl eS_len) (by omega)).mono ?_
      rintro e w2 ⟨rfl, rfl⟩
      rw [q2]
      go_wp2_with fail
      go_ret
      exact ⟨ret_int HC.out.symm, HX, Below.refl _ _⟩

set_option maxHeartbeats 1000000 in
theorem l18Slide_any (base sb : Nat) (ss : List ByteArray) (xs : List AX) (s : ByteArray) (w : World) (H : BX w base sb ss xs) (hl : ss.length ≤ 60) (hz : s.size ≤ maxLen) :
    Calls Tryd.prog 39 #[.pointer (some ⟨sb, 0, none⟩), .string s] w fun e w' => e = .returned (.int .i64 (slCode ss s)) ∧ BX w' base sb (slNext ss s) xs ∧ Below base w w' := by
  obtain ⟨i0, hi0, hz0, hz1, hz2⟩ := info_parts infoStr
  have HX := H
  obtain ⟨A, c, B, d, H⟩ := H
  have c0 := H.c0
  cases q1 : nmOk s
  · have HC : Hid (slCode ss s = 3) := by rw [Hid, slCode, if_pos q1]
    have HN : Hid (slNext ss s = ss) := by rw [Hid, slNext, if_neg (by rw [HC.out]; decide)]
    rw [HN.out]
    go_enter Tryd.func39, Tryd.ntmps39
    go_wp2_with fail
    refine (specIsName_any s _ hz).mono ?_
    rintro e w2 ⟨rfl, rfl⟩
    rw [q1]
    go_wp2_with fail
    go_ret
    exact ⟨ret_int HC.out.symm, HX, Below.refl _ _⟩
  · cases q2 : hasB ss s
    · by_cases q3 : 60 ≤ ss.length
      · have HC : Hid (slCode ss s = 8) := by rw [Hid, slCode, if_neg (by rw [q1]; decide), if_neg (by rw [q2]; decide), if_pos q3]
        have HN : Hid (slNext ss s = ss) := by rw [Hid, slNext, if_neg (by rw [HC.out]; decide)]
        rw [HN.out]
        go_enter Tryd.func39, Tryd.ntmps39
        go_wp2_with fail
        refine (specIsName_any s _ hz).mono ?_
        rintro e w2 ⟨rfl, rfl⟩
        rw [q1]
        go_wp2_with fail
        refine (l18Has_any A _ c ss s _ (H.o1.sl eS_len) (by omega)).mono ?_
        rintro e w2 ⟨rfl, rfl⟩
        rw [q2]
        have H60 : ss.length = 60 := by omega
        go_wp2_with fail
        go_ret
        exact ⟨ret_int HC.out.symm, HX, Below.refl _ _⟩
      · have HC : Hid (slCode ss s = 0) := by rw [Hid, slCode, if_neg (by rw [q1]; decide), if_neg (by rw [q2]; decide), if_neg q3]
        have HN : Hid (slNext ss s = ss ++ [s]) := slNext_ok HC.out
        have hbl := H.base_le
        have HW := H.below (below_alloc w (.cells #[.string s] 9))
        rw [HN.out]
        go_enter Tryd.func39, Tryd.ntmps39
        go_wp2_with fail
        refine (specIsName_any s _ hz).mono ?_
        rintro e w2 ⟨rfl, rfl⟩
        rw [q1]
        go_wp2_with fail
        refine (l18Has_any A _ c ss s _ (H.o1.sl eS_len) (by omega)).mono ?_
        rintro e w2 ⟨rfl, rfl⟩
        rw [q2]
        have hf : ((ss.length : Int) == 60) = false := by rw [beq_eq_false_iff_ne]; omega
        go_wp2_with (at_builtin; refine wpList_app1x rfl (.tmp 27) (.tmp 29) 22 9 rfl base i0 _ 1 16 Tryd.underlying22 hi0 hz0 hz1 hz2 rfl (by omega) eS eS_len eS_one (.slice A ss.length c) ss rfl HW.o1 s _ _ rfl (newcell _ _ _ _ rfl) (by omega) (by unfold maxLen; omega) HW.base_le ?_; intro v9 w9 ho9 hb9 hg9 hv9; obtain ⟨k0, k1, k2, k3⟩ := HW.at0 hg9 HW.row1; obtain ⟨A9, c9, rfl⟩ := own_form ho9; have el : (ss ++ [s]).length = ss.length + 1 := (by simp); simp only [el] at ho9 hv9)
        go_ret
        exact ⟨ret_int HC.out.symm, HW.put0 ho9 hg9 hv9, ((below_al hbl _).trans hb9).setCell H.hb _⟩
    · have HC : Hid (slCode ss s = 5) := by rw [Hid, slCode, if_neg (by rw [q1]; decide), if_pos q2]
      have HN : Hid (slNext ss s = ss) := by rw [Hid, slNext, if_neg (by rw [HC.out]; decide)]
      rw [HN.out]
      go_enter Tryd.func39, Tryd.ntmps39
      go_wp2_with fail
      refine (specIsName_any s _ hz).mono ?_
      rintro e w2 ⟨rfl, rfl⟩
      rw [q1]
      go_wp2_with fail
      refine (l18Has_any A _ c ss s _ (H.o1.sl eS_len) (by omega)).mono ?_
      rintro e w2 ⟨rfl, rfl⟩
      rw [q2]
      go_wp2_with fail
      go_ret
      exact ⟨ret_int HC.out.symm, HX, Below.refl _ _⟩

theorem wd_no {a : AX} (h : wdB a = false) : (a.2.1.toList == [115, 104, 111, 119]) = false ∧ (a.2.1.toList == [104, 105, 100, 101]) = false ∧ (a.2.1.toList == [116, 117, 114, 110]) = false := by
  simp only [wdB, shB, hdB, tuB, Bool.or_eq_false_iff] at h; exact ⟨h.1.1, h.1.2, h.2⟩
theorem wd_cases {a : AX} (h : wdB a = true) : ((a.2.1.toList == [115, 104, 111, 119]) = true ∧ (a.2.1.toList == [104, 105, 100, 101]) = false ∧ (a.2.1.toList == [116, 117, 114, 110]) = false) ∨
    ((a.2.1.toList == [115, 104, 111, 119]) = false ∧ (a.2.1.toList == [104, 105, 100, 101]) = true ∧ (a.2.1.toList == [116, 117, 114, 110]) = false) ∨
    ((a.2.1.toList == [115, 104, 111, 119]) = false ∧ (a.2.1.toList == [104, 105, 100, 101]) = false ∧ (a.2.1.toList == [116, 117, 114, 110]) = true) := by
  simp only [wdB, shB, hdB, tuB, Bool.or_eq_true] at h
  rcases h with (h | h) | h
  all_goals
    rw [beq_iff_eq] at h
    rw [h]; decide
theorem nu_no {a : AX} (h : nuB a = false) : inB a.1 0 10000 = false ∨ (inB a.1 0 10000 = true ∧ inB a.2.2.2 0 1000 = false) ∨ (inB a.1 0 10000 = true ∧ inB a.2.2.2 0 1000 = true ∧ (a.2.2.2 != 0) = true ∧ tuB a = false) := by
  rw [nuB, decide_eq_false_iff_not] at h
  cases h1 : inB a.1 0 10000
  · exact .inl rfl
  · cases h2 : inB a.2.2.2 0 1000
    · exact .inr (.inl ⟨rfl, rfl⟩)
    · have g1 := inB_true.1 h1
      have g2 := inB_true.1 h2
      refine .inr (.inr ⟨rfl, rfl, ?_, ?_⟩)
      · rw [bne_iff_ne]; intro e; exact h ⟨g1.1, g1.2, g2.1, g2.2, .inl e⟩
      · cases h3 : tuB a
        · rfl
        · exact absurd ⟨g1.1, g1.2, g2.1, g2.2, .inr h3⟩ h
theorem nu_yes {a : AX} (h : nuB a = true) : inB a.1 0 10000 = true ∧ inB a.2.2.2 0 1000 = true ∧ ((a.2.2.2 != 0) = false ∨ tuB a = true) := by
  rw [nuB, decide_eq_true_iff] at h
  obtain ⟨a1, a2, a3, a4, a5⟩ := h
  refine ⟨inB_true.2 ⟨a1, a2⟩, inB_true.2 ⟨a3, a4⟩, a5.imp (fun e => by rw [e]; rfl) id⟩
theorem gtLast_no0 {xs : List AX} {t : Int} (h : xs.length = 0) : gtLast xs t = false := by
  have : xs = [] := List.eq_nil_of_length_eq_zero h
  subst this; rfl

end Go.Proofs.YthplfodfilefjaaDoor
