/-
  Scripts: names of both sides.
-/
import Derived.Test.YthplfodfilefjaaDoorNm
namespace Go.Proofs.YthplfodfilefjaaDoor
set_option maxRecDepth 100000
open Go.RowKit

theorem okB_cases (v : Int) : okB v = (smB v || dgB v || decide (v = 45)) := rfl
theorem specIsName_any (s : ByteArray) (w : World) (hz : s.size ≤ maxLen) :
    Calls Tryd.prog 53 #[.string s] w fun e w' => e = .returned (.bool (nmOk s)) ∧ w = w' := by
  unfold maxLen at hz
  by_cases h0 : s.size = 0
  · have HN : Hid (nmOk s = false) := nmOk_small (.inl h0)
    have he : (s.toList == []) = true := by
      have : s = ByteArray.empty := by
        apply ByteArray.ext; apply Array.eq_empty_of_size_eq_zero; exact h0
      subst this; rw [ByteArray.toList_eq]; rfl
    clear h0
    go_enter Tryd.func53, Tryd.ntmps53
    go_wp2
    go_ret
    exact ⟨ret_bool HN.out.symm, rfl⟩
  · have he : (s.toList == []) = false := by
      cases q : s.toList == []
      · rfl
      · exfalso; apply h0; rw [beq_iff_eq, ByteArray.toList_eq] at q; rw [← ByteArray.size_data, ← Array.length_toList, q]; rfl
    by_cases h1 : 12 < s.size
    · have HN : Hid (nmOk s = false) := nmOk_small (.inr h1)
      go_enter Tryd.func53, Tryd.ntmps53
      go_wp2
      go_ret
      exact ⟨ret_bool HN.out.symm, rfl⟩
    · have hpos : 0 < s.size := by omega
      cases q0 : smB (s[0].toNat : Int)
      · have HN : Hid (nmOk s = false) := nmOk_first hpos q0
        go_enter Tryd.func53, Tryd.ntmps53
        go_wp2_with fail
        refine (l01Small_any _ _).mono ?_
        rintro e w2 ⟨rfl, rfl⟩
        rw [q0]
        go_wp2_with fail
        go_ret
        exact ⟨ret_bool HN.out.symm, rfl⟩
      · have Q0 := Lib.hid q0
        go_enter Tryd.func53, Tryd.ntmps53
        go_wp2_with fail
        refine (l01Small_any _ _).mono ?_
        rintro e w2 ⟨rfl, rfl⟩
        rw [q0]
        clear q0
        go_wp2_with fail
        go_loop [3] (fun i => ∃ k : Nat, k ≤ s.size ∧ i = .int .i64 k ∧ Hid (∀ i (h : i < s.size), i < k → okB (s[i].toNat : Int) = true)) (fun i => s.size - (intOf i).toNat)
        case atStart => exact ⟨0, by omega, rfl, by intro i _ hi; omega⟩
        case round =>
          obtain ⟨k, hk, rfl, hA⟩ := hrel
          by_cases hlt : k < s.size
          · have HB := Lib.hid (okB_cases (s[k].toNat : Int))
            cases q1 : smB (s[k].toNat : Int)
            · cases q2 : dgB (s[k].toNat : Int)
              · cases q3 : decide ((s[k].toNat : Int) = 45)
                · have HN : Hid (nmOk s = false) := nmOk_at hlt (by rw [HB.out, q1, q2, q3]; rfl)
                  have hf : ((s[k].toNat : Int) != 45) = true := by rw [bne_iff_ne]; exact of_decide_eq_false q3
                  go_wp2_with fail
                  refine (l01Small_any _ _).mono ?_
                  rintro e w2 ⟨rfl, rfl⟩
                  rw [q1]
                  go_wp2_with fail
                  refine (l01Digit_any _ _).mono ?_
                  rintro e w2 ⟨rfl, rfl⟩
                  rw [q2]
                  go_wp2_with fail
                  go_ret
                  exact ⟨ret_bool HN.out.symm, rfl⟩
                · have HF : Hid (okB (s[k].toNat : Int) = true) := by rw [Hid, HB.out, q1, q2, q3]; rfl
                  have hf : ((s[k].toNat : Int) != 45) = false := by rw [of_decide_eq_true q3]; rfl
                  go_wp2_with fail
                  refine (l01Small_any _ _).mono ?_
                  rintro e w2 ⟨rfl, rfl⟩
                  rw [q1]
                  go_wp2_with fail
                  refine (l01Digit_any _ _).mono ?_
                  rintro e w2 ⟨rfl, rfl⟩
                  rw [q2]
                  go_wp2_with fail
                  go_round
                  case rel =>
                    refine ⟨k + 1, by omega, by go_num, ?_⟩
                    intro i hi hik
                    rcases Nat.lt_succ_iff_lt_or_eq.1 hik with hik | rfl
                    · exact hA i hi hik
                    · exact HF
                  case measure => simp [intOf]; omega
              · have HF : Hid (okB (s[k].toNat : Int) = true) := by rw [Hid, HB.out, q1, q2]; rfl
                go_wp2_with fail
                refine (l01Small_any _ _).mono ?_
                rintro e w2 ⟨rfl, rfl⟩
                rw [q1]
                go_wp2_with fail
                refine (l01Digit_any _ _).mono ?_
                rintro e w2 ⟨rfl, rfl⟩
                rw [q2]
                go_wp2_with fail
                go_round
                case rel =>
                  refine ⟨k + 1, by omega, by go_num, ?_⟩
                  intro i hi hik
                  rcases Nat.lt_succ_iff_lt_or_eq.1 hik with hik | rfl
                  · exact hA i hi hik
                  · exact HF
                case measure => simp [intOf]; omega
            · have HF : Hid (okB (s[k].toNat : Int) = true) := by rw [Hid, HB.out, q1]; rfl
              go_wp2_with fail
              refine (l01Small_any _ _).mono ?_
              rintro e w2 ⟨rfl, rfl⟩
              rw [q1]
              go_wp2_with fail
              go_round
              case rel =>
                refine ⟨k + 1, by omega, by go_num, ?_⟩
                intro i hi hik
                rcases Nat.lt_succ_iff_lt_or_eq.1 hik with hik | rfl
                · exact hA i hi hik
                · exact HF
              case measure => simp [intOf]; omega
          · have : k = s.size := by omega
            subst this
            have HN : Hid (nmOk s = true) := nmOk_all hpos (by omega) Q0.out fun i hi => hA.out i hi hi
            go_wp2_with fail
            go_ret
            exact ⟨ret_bool HN.out.symm, rfl⟩

theorem smB_no {v : Int} (h : v < 97 ∨ 122 < v) : smB v = false := by rw [smB, decide_eq_false_iff_not]; omega
theorem smB_yes {v : Int} (h : ¬ v < 97) (h2 : ¬ 122 < v) : smB v = true := by rw [smB, decide_eq_true_iff]; omega
theorem implIsName_any (s : ByteArray) (w : World) (hz : s.size ≤ maxLen) :
    Calls Tryd.prog 56 #[.string s] w fun e w' => e = .returned (.bool (nmOk s)) ∧ w = w' := by
  unfold maxLen at hz
  by_cases h0 : s.size = 0 ∨ 12 < s.size
  · have HN : Hid (nmOk s = false) := nmOk_small h0
    rcases h0 with h0 | h0
    all_goals
      go_enter Tryd.func56, Tryd.ntmps56
      go_wp2
      go_ret
      exact ⟨ret_bool HN.out.symm, rfl⟩
  · have hpos : 0 < s.size := by omega
    have h12 : ¬ 12 < s.size := by omega
    by_cases hq : (s[0].toNat : Int) < 97 ∨ 122 < (s[0].toNat : Int)
    · have HN : Hid (nmOk s = false) := nmOk_first hpos (smB_no hq)
      rcases Classical.em ((s[0].toNat : Int) < 97) with hq | hq2
      · go_enter Tryd.func56, Tryd.ntmps56
        go_wp2
        go_ret
        exact ⟨ret_bool HN.out.symm, rfl⟩
      · have hq3 : 122 < (s[0].toNat : Int) := by omega
        go_enter Tryd.func56, Tryd.ntmps56
        go_wp2
        go_ret
        exact ⟨ret_bool HN.out.symm, rfl⟩
    · have hq1 : ¬ (s[0].toNat : Int) < 97 := by omega
      have hq2 : ¬ 122 < (s[0].toNat : Int) := by omega
      have Q0 : Hid (smB (s[0].toNat : Int) = true) := smB_yes hq1 hq2
      go_enter Tryd.func56, Tryd.ntmps56
      go_wp2
      go_loop [3] (fun i => ∃ k : Nat, 1 ≤ k ∧ k ≤ s.size ∧ i = .int .i64 k ∧ Hid (∀ i (h : i < s.size), i < k → okB (s[i].toNat : Int) = true)) (fun i => s.size - (intOf i).toNat)
      case atStart =>
        refine ⟨1, by omega, by omega, rfl, ?_⟩
        intro i _ hi
        have : i = 0 := by omega
        subst this
        exact okB_small Q0.out
      case round =>
        obtain ⟨k, hk1, hk, rfl, hA⟩ := hrel
        by_cases hlt : k < s.size
        · have HB := Lib.hid (okB_cases (s[k].toNat : Int))
          by_cases q0 : (s[k].toNat : Int) < 97 ∨ 122 < (s[k].toNat : Int)
          · by_cases q2 : (s[k].toNat : Int) < 48 ∨ 57 < (s[k].toNat : Int)
            · by_cases q3 : (s[k].toNat : Int) = 45
              · have HF : Hid (okB (s[k].toNat : Int) = true) := by rw [Hid, HB.out, q3]; rfl
                have hf : ((s[k].toNat : Int) != 45) = false := by rw [q3]; rfl
                have g1 : (s[k].toNat : Int) < 97 := by omega
                have g2 : ¬ 122 < (s[k].toNat : Int) := by omega
                have g3 : (s[k].toNat : Int) < 48 := by omega
                clear q0 q2 q3
                go_wp2
                go_round
                case rel =>
                  refine ⟨k + 1, by omega, by omega, by go_num, ?_⟩
                  intro i hi hik
                  rcases Nat.lt_succ_iff_lt_or_eq.1 hik with hik | rfl
                  · exact hA i hi hik
                  · exact HF
                case measure => simp [intOf]; omega
              · have HN : Hid (nmOk s = false) := nmOk_at hlt (by
                  rw [HB.out, smB_no q0, show dgB (s[k].toNat : Int) = false by rw [dgB, decide_eq_false_iff_not]; omega, decide_eq_false q3]; rfl)
                have hf : ((s[k].toNat : Int) != 45) = true := by rw [bne_iff_ne]; exact q3
                rcases Classical.em ((s[k].toNat : Int) < 97) with g1 | g1 <;> rcases Classical.em ((s[k].toNat : Int) < 48) with g2 | g2
                · clear q0 q2
                  go_wp2
                  go_ret
                  exact ⟨ret_bool HN.out.symm, rfl⟩
                · have g3 : 57 < (s[k].toNat : Int) := by omega
                  clear q0 q2
                  go_wp2
                  go_ret
                  exact ⟨ret_bool HN.out.symm, rfl⟩
                · omega
                · have g3 : 122 < (s[k].toNat : Int) := by omega
                  have g4 : 57 < (s[k].toNat : Int) := by omega
                  clear q0 q2
                  go_wp2
                  go_ret
                  exact ⟨ret_bool HN.out.symm, rfl⟩
            · have HF : Hid (okB (s[k].toNat : Int) = true) := by
                rw [Hid, HB.out, show dgB (s[k].toNat : Int) = true by rw [dgB, decide_eq_true_iff]; omega]; simp
              have g1 : (s[k].toNat : Int) < 97 := by omega
              have g3 : ¬ (s[k].toNat : Int) < 48 := by omega
              have g4 : ¬ 57 < (s[k].toNat : Int) := by omega
              clear q0 q2
              go_wp2
              go_round
              case rel =>
                refine ⟨k + 1, by omega, by omega, by go_num, ?_⟩
                intro i hi hik
                rcases Nat.lt_succ_iff_lt_or_eq.1 hik with hik | rfl
                · exact hA i hi hik
                · exact HF
              case measure => simp [intOf]; omega
          · have g1 : ¬ (s[k].toNat : Int) < 97 := by omega
            have g3 : ¬ 122 < (s[k].toNat : Int) := by omega
            have HF : Hid (okB (s[k].toNat : Int) = true) := okB_small (smB_yes g1 g3)
            clear q0
            go_wp2
            go_round
            case rel =>
              refine ⟨k + 1, by omega, by omega, by go_num, ?_⟩
              intro i hi hik
              rcases Nat.lt_succ_iff_lt_or_eq.1 hik with hik | rfl
              · exact hA i hi hik
              · exact HF
            case measure => simp [intOf]; omega
        · have : k = s.size := by omega
          subst this
          have HN : Hid (nmOk s = true) := nmOk_all hpos (by omega) Q0.out fun i hi => hA.out i hi hi
          go_wp2
          go_ret
          exact ⟨ret_bool HN.out.symm, rfl⟩

end Go.Proofs.YthplfodfilefjaaDoor
