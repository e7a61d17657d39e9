/-
  Contracts of the functions on showings: the loads with a line (the program).
-/
import Derived.Test.YthplfodfilefjaaLoS
namespace Go.Proofs.Ythplfodfilefjaa
open Go.RowKit

set_option maxRecDepth 100000 in
set_option maxHeartbeats 800000 in
theorem loadsOrdered_old (s : ByteArray) (P : Nat) (w : World) (hs : s.size ≤ 40) (hP1 : 1 ≤ P) (hP : P ≤ 6) :
    Calls Try.prog 9 #[.string s, .int .i64 (P : Int), .bool false] w fun e w' => e = .returned (.int .i64 (lnVal s.data.toList false P)) ∧ Below w.heap.size w w' := by
  obtain ⟨i0, hi0, hz0, hz1, hz2⟩ := info_parts infoU8
  have HV : Hid (lnVal s.data.toList false P = (lnK s.data.toList false P s.size).2) := by rw [Hid, lnVal, lenB]; rfl
  go_enter Try.func9, Try.ntmps9
  go_wp2_with fail
  have hst : RowO (w.alloc (.cells #[] 5)) w.heap.size (.slice (some ⟨w.heap.size, 0, none⟩) 0 0) (lnK s.data.toList false P 0).1 := RowO.lit w _ (Nat.le_refl _)
  go_loopw [7, 8, 14] (fun v q i wr => ∃ k : Nat, k ≤ s.size ∧ i = .int .i64 k ∧ q = .int .i64 (lnK s.data.toList false P k).2 ∧ RowO wr w.heap.size v (lnK s.data.toList false P k).1 ∧ Below w.heap.size w wr) (fun _ _ i _ => s.size - (intOf i).toNat)
  case atStart => exact ⟨0, by omega, rfl, rfl, hst, below_alloc _ _⟩
  case round =>
    obtain ⟨k, hk, rfl, rfl, ho, hb⟩ := hrel
    by_cases hlt : k < s.size
    · have hc := Lib.hid (snocB s k hlt)
      have hlen := lnK_len s.data.toList false hP1 k
      have hbd := lnK_bd s.data.toList false P k
      have HST := Lib.hid (lnK_step (again := false) (p := P) hc.out)
      have H0 : Hid (lnK s.data.toList false P k = ((lnK s.data.toList false P k).1, (lnK s.data.toList false P k).2)) := rfl
      obtain ⟨g, off, cap, hv, hr⟩ := ho
      subst hv
      generalize hln : (lnK s.data.toList false P k).1 = ln at hlen H0 hr ⊢
      generalize hct : (lnK s.data.toList false P k).2 = ct at hbd H0 ⊢
      clear hln hct
      rw [H0.out] at HST
      have hfle := findB_le ln s[k]
      go_wp2_with fail
      refine (Index_any _ ln.length cap ln s[k] _ hr.sl (by omega)).mono ?_
      rintro e w7 ⟨rfl, rfl⟩
      by_cases hf : findB ln s[k] < ln.length
      · have HB1 : Hid (fiI ln s[k] = (findB ln s[k] : Int)) := fiI_yes hf
        rw [HB1.out]
        generalize hfa : findB ln s[k] = fa at hf hfle ⊢
        have HFA := Lib.hid hfa
        clear hfa HB1
        have HR : Hid (lnK s.data.toList false P (k + 1) = (ln, ct)) := by rw [Hid, HST.out, lnF_old (by show findB ln s[k] < ln.length; rw [HFA.out]; exact hf)]
        go_wp2_with fail
        go_roundw
        case rel => exact ⟨k + 1, by omega, by go_num, by rw [HR.out], by rw [HR.out]; exact ⟨g, off, cap, rfl, hr⟩, hb⟩
        case measure => simp [intOf]; omega
      · have HB1 : Hid (fiI ln s[k] = -1) := fiI_no hf
        rw [HB1.out]
        have HF := Lib.hid hf
        clear hf hfle HB1
        by_cases hfull : ln.length = P
        · have HR : Hid (lnK s.data.toList false P (k + 1) = (ln.drop 1 ++ [s[k]], ct + 1)) := by rw [Hid, HST.out, lnF_full HF.out hfull]
          obtain ⟨x0, ys, hxy⟩ : ∃ x0 ys, ln = x0 :: ys := by
            cases ln with
            | nil => simp at hfull; omega
            | cons a b => exact ⟨a, b, rfl⟩
          have hyl : ys.length + 1 = P := by rw [← hfull, hxy]; rfl
          have HLL : Hid (ln.length = ys.length + 1) := by rw [Hid, hxy]; rfl
          have HL9 : Hid ((ln ++ [s[k]]).length = ys.length + 2) := by rw [Hid, hxy]; simp
          have HAPP : Hid (ln ++ [s[k]] = x0 :: (ys ++ [s[k]])) := by rw [Hid, hxy]; rfl
          have HDR : Hid (ln.drop 1 ++ [s[k]] = ys ++ [s[k]]) := by rw [Hid, hxy]; rfl
          clear hxy hfull
          go_wp2_with (at_builtin; refine wpList_appO rfl (.tmp 26) (.tmp 30) 29 5 rfl w.heap.size i0 _ Try.underlying29 hi0 hz0 hz1 hz2 rfl g off cap ln (by rfl) (hr.alloc _) s[k] _ _ (by rfl) (by simp) (by omega) (hb.alloc hb.size _).size ?_; intro v9 w9 ho9 hb9; obtain ⟨g9, off9, cap9, rfl, hr9⟩ := ho9; rw [HL9.out]; rw [HAPP.out] at hr9; have hc9 := hr9.r2; obtain ⟨cap8, hcap8⟩ : ∃ c, cap9 = c + 1 := ⟨cap9 - 1, (by simp at hc9; omega)⟩; subst hcap8; have hr8 := hr9.tail; have hgt : decide ((P : Int) < ((ys.length + 2 : Nat) : Int)) = true := (by simp; omega); have hbz := (hb.alloc hb.size _).trans hb9; clear hc9)
          have hc8 : ¬ cap8 = 0 := by have := hr8.r2; simp at this; omega
          have HP8 : Hid ((ys ++ [s[k]]).length = P) := by rw [Hid, ← hyl]; simp
          go_roundw
          case rel => exact ⟨k + 1, by omega, by go_num, by rw [HR.out], by rw [HR.out, HDR.out]; exact ⟨g9, off9 + 1, cap8, by rw [if_neg hc8, HP8.out], hr8⟩, hbz⟩
          case measure => simp [intOf]; omega
        · have HR : Hid (lnK s.data.toList false P (k + 1) = (ln ++ [s[k]], ct + 1)) := by rw [Hid, HST.out, lnF_room HF.out hfull]
          have HL9 : Hid ((ln ++ [s[k]]).length = ln.length + 1) := by rw [Hid]; simp
          have hle9 : ln.length + 1 ≤ P := by omega
          clear hfull
          go_wp2_with (at_builtin; refine wpList_appO rfl (.tmp 26) (.tmp 30) 29 5 rfl w.heap.size i0 _ Try.underlying29 hi0 hz0 hz1 hz2 rfl g off cap ln (by rfl) (hr.alloc _) s[k] _ _ (by rfl) (by simp) (by omega) (hb.alloc hb.size _).size ?_; intro v9 w9 ho9 hb9; obtain ⟨g9, off9, cap9, rfl, hr9⟩ := ho9; rw [HL9.out])
          go_roundw
          case rel => exact ⟨k + 1, by omega, by go_num, by rw [HR.out], by rw [HR.out]; exact ⟨g9, off9, cap9, by rw [HL9.out], hr9⟩, (hb.alloc hb.size _).trans hb9⟩
          case measure => simp [intOf]; omega
    · have : k = s.size := by omega
      subst this
      go_wp2_with fail
      go_ret
      exact ⟨ret_int HV.out.symm, hb⟩

end Go.Proofs.Ythplfodfilefjaa
