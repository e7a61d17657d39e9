/-
  Contracts of the functions on showings: the loads with a line (the reference).
-/
import Derived.Test.YthplfodfilefjaaLdE
import Derived.Test.YthplfodfilefjaaLo
import Derived.Test.YthplfodfilefjaaLoR
namespace Go.Proofs.Ythplfodfilefjaa
open Go.RowKit

theorem lnF_old {p : Nat} {st : List UInt8 × Int} {c : UInt8} (h : findB st.1 c < st.1.length) : lnF false p st c = st := by simp [lnF, h]
theorem lnF_again {p : Nat} {st : List UInt8 × Int} {c : UInt8} (h : findB st.1 c < st.1.length) : lnF true p st c = (st.1.eraseIdx (findB st.1 c) ++ [c], st.2) := by simp [lnF, h]
theorem lnF_full {again : Bool} {p : Nat} {st : List UInt8 × Int} {c : UInt8} (h : ¬ findB st.1 c < st.1.length) (hp : st.1.length = p) : lnF again p st c = (st.1.drop 1 ++ [c], st.2 + 1) := by rw [lnF, if_neg h, if_pos hp]
theorem lnF_room {again : Bool} {p : Nat} {st : List UInt8 × Int} {c : UInt8} (h : ¬ findB st.1 c < st.1.length) (hp : ¬ st.1.length = p) : lnF again p st c = (st.1 ++ [c], st.2 + 1) := by rw [lnF, if_neg h, if_neg hp]

set_option maxRecDepth 100000 in
set_option maxHeartbeats 1600000 in
theorem l20Loads_any (s : ByteArray) (P : Nat) (again : Bool) (w : World) (hs : s.size ≤ 40) (hP1 : 1 ≤ P) (hP : P ≤ 6) :
    Calls Try.prog 7 #[.string s, .int .i64 (P : Int), .bool again] w fun e w' => e = .returned (.int .i64 (lnVal s.data.toList again P)) ∧ Below w.heap.size w w' := by
  obtain ⟨i0, hi0, hz0, hz1, hz2⟩ := info_parts infoU8
  have HV : Hid (lnVal s.data.toList again P = (lnK s.data.toList again P s.size).2) := by rw [Hid, lnVal, lenB]; rfl
  go_enter Try.func7, Try.ntmps7
  go_wp2_with fail
  have hst : Own (w.alloc (.cells #[] 5)) w.heap.size 5 1 eB (.slice (some ⟨w.heap.size, 0, none⟩) 0 0) (lnK s.data.toList again P 0).1 := Own.lit w _ _ [] 0 (Nat.le_refl _) rfl (by simp [maxLen]) eB_len rfl
  go_loopw [7, 8, 9] (fun v q i wr => ∃ k : Nat, k ≤ s.size ∧ i = .int .i64 k ∧ q = .int .i64 (lnK s.data.toList again P k).2 ∧ Own wr w.heap.size 5 1 eB v (lnK s.data.toList again P k).1 ∧ Below w.heap.size w wr) (fun _ _ i _ => s.size - (intOf i).toNat)
  case atStart => exact ⟨0, by omega, rfl, rfl, hst, below_alloc _ _⟩
  case round =>
    obtain ⟨k, hk, rfl, rfl, ho, hb⟩ := hrel
    by_cases hlt : k < s.size
    · have hc := Lib.hid (snocB s k hlt)
      have hlen := lnK_len s.data.toList again hP1 k
      have hnd := Lib.hid (lnK_nodup s.data.toList again P k)
      have hbd := lnK_bd s.data.toList again P k
      have HST := Lib.hid (lnK_step (again := again) (p := P) hc.out)
      have H0 : Hid (lnK s.data.toList again P k = ((lnK s.data.toList again P k).1, (lnK s.data.toList again P k).2)) := rfl
      obtain ⟨Al, cl, hv, _⟩ := ho.val
      subst hv
      generalize hln : (lnK s.data.toList again P k).1 = ln at hlen hnd H0 ho ⊢
      generalize hct : (lnK s.data.toList again P k).2 = ct at hbd H0 ⊢
      clear hln hct
      rw [H0.out] at HST
      obtain ⟨n, hn⟩ : ∃ n, n = ln.length := ⟨_, rfl⟩
      have HN := Lib.hid hn
      rw [← hn] at hlen ⊢
      rw [← hn] at ho
      clear hn
      go_wp2_with fail
      go_loopw [10, 11] (fun a j wr => ∃ u : Nat, u ≤ n ∧ j = .int .i64 u ∧ a = .int .i64 (atK ln s[k] u) ∧ Own wr w.heap.size 5 1 eB (.slice Al n cl) ln ∧ Below w.heap.size w wr) (fun _ j _ => n - (intOf j).toNat)
      case atStart => exact ⟨0, by omega, rfl, by rw [atK_zero], ho, hb⟩
      case round =>
        obtain ⟨u, hu, rfl, rfl, ho, hb⟩ := hrel
        by_cases hlt2 : u < n
        · obtain ⟨bl, offl, y, rfl, hy, hmy, c0⟩ := (ho.sl eB_len).atB hlt2
          have g1 : (0 : Int) ≤ (u : Int) := by omega
          have g2 : (u : Int) < (n : Int) := by omega
          have g3 : (0 : Int) ≤ (k : Int) := by omega
          have g4 : (k : Int) < (s.size : Int) := by omega
          have HY := Lib.hid hy
          clear hy
          cases hq : (y == s[k])
          · have hq2 : (((y.toNat : Nat) : Int) == ((s[k].toNat : Nat) : Int)) = false := by rw [byte_eq, hq]
            have HS := Lib.hid (atK_no HY.out hq)
            go_wp2_with fail
            go_quiet (fail)
            go_wp2_with fail
            go_roundw
            case rel => exact ⟨u + 1, by omega, by go_num, by rw [HS.out], ho.drewN _, below_drewN hb _⟩
            case measure => simp [intOf]; omega
          · have hq2 : (((y.toNat : Nat) : Int) == ((s[k].toNat : Nat) : Int)) = true := by rw [byte_eq, hq]
            have HS := Lib.hid (atK_yes hnd.out HY.out hq)
            go_wp2_with fail
            go_quiet (fail)
            go_wp2_with fail
            go_roundw
            case rel => exact ⟨u + 1, by omega, by go_num, by rw [HS.out], ho.drewN _, below_drewN hb _⟩
            case measure => simp [intOf]; omega
        · have : u = n := by omega
          subst this
          have HA : Hid (atK ln s[k] u = if findB ln s[k] < ln.length then (findB ln s[k] : Int) else -1) := by rw [Hid, HN.out]; exact atK_end ln s[k]
          by_cases hf : findB ln s[k] < ln.length
          · have HA1 : Hid (atK ln s[k] u = (findB ln s[k] : Int)) := by rw [Hid, HA.out, if_pos hf]
            have HF := Lib.hid hf
            have hfu : findB ln s[k] < u := by rw [HN.out]; exact hf
            clear hf
            rw [HA1.out]
            generalize hfa : findB ln s[k] = fa at HF HA1 hfu ⊢
            have HFA := Lib.hid hfa
            clear hfa
            cases again
            · have HR : Hid (lnK s.data.toList false P (k + 1) = (ln, ct)) := by rw [Hid, HST.out, lnF_old (by show findB ln s[k] < ln.length; rw [HFA.out]; exact HF.out)]
              go_wp2_with fail
              go_roundw
              case rel => exact ⟨k + 1, by omega, by go_num, by rw [HR.out], by rw [HR.out]; exact ho, hb⟩
              case measure => simp [intOf]; omega
            · have HR : Hid (lnK s.data.toList true P (k + 1) = (ln.eraseIdx fa ++ [s[k]], ct)) := by rw [Hid, HST.out, lnF_again (by show findB ln s[k] < ln.length; rw [HFA.out]; exact HF.out)]; simp only [HFA.out]
              obtain ⟨w7, hw7⟩ : ∃ w7, w7 = wr := ⟨_, rfl⟩
              subst hw7
              have hbw7 := hb
              have hsl7 := ho.sl eB_len
              have hst7 : Own (w7.alloc (.cells #[] 5)) w7.heap.size 5 1 eB (.slice (some ⟨w7.heap.size, 0, none⟩) 0 0) ([] : List UInt8) := Own.lit w7 _ _ [] 0 (Nat.le_refl _) rfl (by simp [maxLen]) eB_len rfl
              go_wp2_with fail
              go_loopw [12, 13] (fun v j wr => ∃ z : Nat, z ≤ u ∧ j = .int .i64 z ∧ Own wr w7.heap.size 5 1 eB v (nxtK ln (fa : Int) z) ∧ Below w7.heap.size w7 wr) (fun _ j _ => u - (intOf j).toNat)
              case atStart => exact ⟨0, by omega, rfl, hst7, below_alloc _ _⟩
              case round =>
                obtain ⟨z, hu, rfl, ho7, hb7⟩ := hrel
                by_cases hlt2 : z < u
                · obtain ⟨bl, offl, y, rfl, hy, hmy, c0⟩ := (hsl7.below hb7).atB hlt2
                  have hnl := nxtK_len ln (fa : Int) z
                  have HY := Lib.hid hy
                  clear hy
                  by_cases hne : (z : Int) = (fa : Int)
                  · have HS := Lib.hid (nxtK_no HY.out hne)
                    have hbq : ((z : Int) != (fa : Int)) = false := by simp [hne]
                    clear hne
                    go_wp2_with fail
                    go_roundw
                    case rel => exact ⟨z + 1, by omega, by go_num, by rw [HS.out]; exact ho7, hb7⟩
                    case measure => simp [intOf]; omega
                  · have HS := Lib.hid (nxtK_yes HY.out hne)
                    have hbq : ((z : Int) != (fa : Int)) = true := by rw [bne_iff_ne]; exact hne
                    clear hne
                    go_wp2_with (at_builtin; refine wpList_app1 rfl (.tmp 60) (.tmp 65) 29 5 rfl w7.heap.size i0 _ 1 1 Try.underlying29 hi0 hz0 hz1 hz2 rfl (by decide) eB eB_len eB_one _ (nxtK ln (fa : Int) z) rfl (ho7.alloc _) y _ _ rfl (newcell _ _ _ _ (by simp)) (by omega) (by unfold maxLen; omega) (hb7.alloc hb7.size _).size ?_; intro v9 w9 ho9 hb9)
                    go_roundw
                    case rel => exact ⟨z + 1, by omega, by go_num, by rw [HS.out]; exact ho9, (hb7.alloc hb7.size _).trans hb9⟩
                    case measure => simp [intOf]; omega
                · have : z = u := by omega
                  subst this
                  have HE : Hid (nxtK ln (fa : Int) z ++ [s[k]] = (lnK s.data.toList true P (k + 1)).1) := by rw [Hid, HR.out]; have h1 := nxtK_end (l := ln) HF.out; rw [← HN.out] at h1; rw [h1]
                  have hnl := nxtK_len ln (fa : Int) z
                  go_wp2_with (at_builtin; refine wpList_app1 rfl (.tmp 67) (.tmp 71) 29 5 rfl w7.heap.size i0 _ 1 1 Try.underlying29 hi0 hz0 hz1 hz2 rfl (by decide) eB eB_len eB_one _ (nxtK ln (fa : Int) z) rfl (ho7.alloc _) s[k] _ _ rfl (newcell _ _ _ _ (by simp)) (by omega) (by unfold maxLen; omega) (hb7.alloc hb7.size _).size ?_; intro v9 w9 ho9 hb9)
                  have hbz := below_mid hbw7 ((hb7.alloc hb7.size _).trans hb9) hbw7.size
                  rw [HE.out] at ho9
                  go_roundw
                  case rel => exact ⟨k + 1, by omega, by go_num, by rw [HR.out], ho9.mono hbw7.size, hbz⟩
                  case measure => simp [intOf]; omega
          · have HA1 : Hid (atK ln s[k] u = -1) := by rw [Hid, HA.out, if_neg hf]
            have HF := Lib.hid hf
            clear hf
            rw [HA1.out]
            by_cases hfull : u = P
            · have HR : Hid (lnK s.data.toList again P (k + 1) = (ln.drop 1 ++ [s[k]], ct + 1)) := by rw [Hid, HST.out, lnF_full HF.out (by rw [← HN.out]; exact hfull)]
              subst hfull
              obtain ⟨w7, hw7⟩ : ∃ w7, w7 = wr := ⟨_, rfl⟩
              subst hw7
              have hbw7 := hb
              have hsl7 := ho.sl eB_len
              have hst7 : Own (w7.alloc (.cells #[] 5)) w7.heap.size 5 1 eB (.slice (some ⟨w7.heap.size, 0, none⟩) 0 0) ([] : List UInt8) := Own.lit w7 _ _ [] 0 (Nat.le_refl _) rfl (by simp [maxLen]) eB_len rfl
              go_wp2_with fail
              go_loopw [12, 13] (fun v j wr => ∃ z : Nat, z ≤ u ∧ j = .int .i64 z ∧ Own wr w7.heap.size 5 1 eB v (nxtK ln 0 z) ∧ Below w7.heap.size w7 wr) (fun _ j _ => u - (intOf j).toNat)
              case atStart => exact ⟨0, by omega, rfl, hst7, below_alloc _ _⟩
              case round =>
                obtain ⟨z, hu, rfl, ho7, hb7⟩ := hrel
                by_cases hlt2 : z < u
                · obtain ⟨bl, offl, y, rfl, hy, hmy, c0⟩ := (hsl7.below hb7).atB hlt2
                  have hnl := nxtK_len ln 0 z
                  have HY := Lib.hid hy
                  clear hy
                  by_cases hne : (z : Int) = 0
                  · have HS := Lib.hid (nxtK_no HY.out hne)
                    have hbq : ((z : Int) != 0) = false := by simp [hne]
                    clear hne
                    go_wp2_with fail
                    go_roundw
                    case rel => exact ⟨z + 1, by omega, by go_num, by rw [HS.out]; exact ho7, hb7⟩
                    case measure => simp [intOf]; omega
                  · have HS := Lib.hid (nxtK_yes HY.out hne)
                    have hbq : ((z : Int) != 0) = true := by rw [bne_iff_ne]; exact hne
                    clear hne
                    go_wp2_with (at_builtin; refine wpList_app1 rfl (.tmp 60) (.tmp 65) 29 5 rfl w7.heap.size i0 _ 1 1 Try.underlying29 hi0 hz0 hz1 hz2 rfl (by decide) eB eB_len eB_one _ (nxtK ln 0 z) rfl (ho7.alloc _) y _ _ rfl (newcell _ _ _ _ (by simp)) (by omega) (by unfold maxLen; omega) (hb7.alloc hb7.size _).size ?_; intro v9 w9 ho9 hb9)
                    go_roundw
                    case rel => exact ⟨z + 1, by omega, by go_num, by rw [HS.out]; exact ho9, (hb7.alloc hb7.size _).trans hb9⟩
                    case measure => simp [intOf]; omega
                · have : z = u := by omega
                  subst this
                  have HE : Hid (nxtK ln 0 z ++ [s[k]] = (lnK s.data.toList again z (k + 1)).1) := by rw [Hid, HR.out]; have h1 := nxtK_end (l := ln) (a := 0) (by rw [← HN.out]; omega); rw [← HN.out, List.eraseIdx_zero, ← List.drop_one] at h1; rw [show (0 : Int) = ((0 : Nat) : Int) from rfl, h1]
                  have hnl := nxtK_len ln 0 z
                  go_wp2_with (at_builtin; refine wpList_app1 rfl (.tmp 67) (.tmp 71) 29 5 rfl w7.heap.size i0 _ 1 1 Try.underlying29 hi0 hz0 hz1 hz2 rfl (by decide) eB eB_len eB_one _ (nxtK ln 0 z) rfl (ho7.alloc _) s[k] _ _ rfl (newcell _ _ _ _ (by simp)) (by omega) (by unfold maxLen; omega) (hb7.alloc hb7.size _).size ?_; intro v9 w9 ho9 hb9)
                  have hbz := below_mid hbw7 ((hb7.alloc hb7.size _).trans hb9) hbw7.size
                  rw [HE.out] at ho9
                  go_roundw
                  case rel => exact ⟨k + 1, by omega, by go_num, by rw [HR.out], ho9.mono hbw7.size, hbz⟩
                  case measure => simp [intOf]; omega
            · have HR : Hid (lnK s.data.toList again P (k + 1) = (ln ++ [s[k]], ct + 1)) := by rw [Hid, HST.out, lnF_room HF.out (by rw [← HN.out]; exact hfull)]
              have hfb : ((u : Int) == (P : Int)) = false := by rw [beq_eq_false_iff_ne]; omega
              clear hfull
              obtain ⟨w7, hw7⟩ : ∃ w7, w7 = wr := ⟨_, rfl⟩
              subst hw7
              have hbw7 := hb
              have hsl7 := ho.sl eB_len
              have hst7 : Own (w7.alloc (.cells #[] 5)) w7.heap.size 5 1 eB (.slice (some ⟨w7.heap.size, 0, none⟩) 0 0) ([] : List UInt8) := Own.lit w7 _ _ [] 0 (Nat.le_refl _) rfl (by simp [maxLen]) eB_len rfl
              go_wp2_with fail
              go_loopw [12, 13] (fun v j wr => ∃ z : Nat, z ≤ u ∧ j = .int .i64 z ∧ Own wr w7.heap.size 5 1 eB v (nxtK ln (-1) z) ∧ Below w7.heap.size w7 wr) (fun _ j _ => u - (intOf j).toNat)
              case atStart => exact ⟨0, by omega, rfl, hst7, below_alloc _ _⟩
              case round =>
                obtain ⟨z, hu, rfl, ho7, hb7⟩ := hrel
                by_cases hlt2 : z < u
                · obtain ⟨bl, offl, y, rfl, hy, hmy, c0⟩ := (hsl7.below hb7).atB hlt2
                  have hnl := nxtK_len ln (-1) z
                  have HY := Lib.hid hy
                  clear hy
                  by_cases hne : (z : Int) = (-1)
                  · have HS := Lib.hid (nxtK_no HY.out hne)
                    have hbq : ((z : Int) != (-1)) = false := by simp [hne]
                    clear hne
                    go_wp2_with fail
                    go_roundw
                    case rel => exact ⟨z + 1, by omega, by go_num, by rw [HS.out]; exact ho7, hb7⟩
                    case measure => simp [intOf]; omega
                  · have HS := Lib.hid (nxtK_yes HY.out hne)
                    have hbq : ((z : Int) != (-1)) = true := by rw [bne_iff_ne]; exact hne
                    clear hne
                    go_wp2_with (at_builtin; refine wpList_app1 rfl (.tmp 60) (.tmp 65) 29 5 rfl w7.heap.size i0 _ 1 1 Try.underlying29 hi0 hz0 hz1 hz2 rfl (by decide) eB eB_len eB_one _ (nxtK ln (-1) z) rfl (ho7.alloc _) y _ _ rfl (newcell _ _ _ _ (by simp)) (by omega) (by unfold maxLen; omega) (hb7.alloc hb7.size _).size ?_; intro v9 w9 ho9 hb9)
                    go_roundw
                    case rel => exact ⟨z + 1, by omega, by go_num, by rw [HS.out]; exact ho9, (hb7.alloc hb7.size _).trans hb9⟩
                    case measure => simp [intOf]; omega
                · have : z = u := by omega
                  subst this
                  have HE : Hid (nxtK ln (-1) z ++ [s[k]] = (lnK s.data.toList again P (k + 1)).1) := by rw [Hid, HR.out]; have h1 := nxtK_none (l := ln); rw [← HN.out] at h1; rw [h1]
                  have hnl := nxtK_len ln (-1) z
                  go_wp2_with (at_builtin; refine wpList_app1 rfl (.tmp 67) (.tmp 71) 29 5 rfl w7.heap.size i0 _ 1 1 Try.underlying29 hi0 hz0 hz1 hz2 rfl (by decide) eB eB_len eB_one _ (nxtK ln (-1) z) rfl (ho7.alloc _) s[k] _ _ rfl (newcell _ _ _ _ (by simp)) (by omega) (by unfold maxLen; omega) (hb7.alloc hb7.size _).size ?_; intro v9 w9 ho9 hb9)
                  have hbz := below_mid hbw7 ((hb7.alloc hb7.size _).trans hb9) hbw7.size
                  rw [HE.out] at ho9
                  go_roundw
                  case rel => exact ⟨k + 1, by omega, by go_num, by rw [HR.out], ho9.mono hbw7.size, hbz⟩
                  case measure => simp [intOf]; omega
    · have : k = s.size := by omega
      subst this
      go_wp2_with fail
      go_ret
      exact ⟨ret_int HV.out.symm, hb⟩

end Go.Proofs.Ythplfodfilefjaa
