/-
  Contracts of the functions on showings: the best plan (the program).
-/
import Derived.Test.YtodfomglhlamoaaLdE
import Derived.Deep.RegionHeld3
import Derived.Deep.DeepCutAuto
import Derived.Deep.OwnRows
namespace Go.Proofs.Ytodfomglhlamoaa
open Go.RowKit


theorem Index0_any (A : Option Addr) (n cp : Nat) (m : List UInt8) (w : World) (h : Sl w 1 eB A n m) (hn : n ≤ 1048577) :
    Calls Try.prog 54 #[.slice A n cp, .int .u8 0] w fun e w' => e = .returned (.int .i64 (fiI m 0)) ∧ w = w' := Index_any A n cp m 0 w h hn

set_option maxHeartbeats 800000 in
theorem bestLoading_any (s : ByteArray) (P : Nat) (w : World) (hs : s.size ≤ 40) (hok : ldOk s.data.toList = true) (hP1 : 1 ≤ P) (hP : P ≤ 6) :
    Calls Try.prog 49 #[.string s, .int .i64 P] w (RetOwn 2 1 e1 (bsPlan s.data.toList P) w) := by
  obtain ⟨i0, hi0, hz0, hz1, hz2⟩ := info_parts infoU8
  obtain ⟨i1, hi1, hy0, hy1, hy2⟩ := info_parts infoI64
  have HNZ := Lib.hid (ldOk_nz hok)
  have HPL : Hid (bsPlan s.data.toList P = (bsK s.data.toList P s.size).2) := by rw [Hid, bsPlan, lenB]
  have hmk := fun w => run_make_row' (P := Try.prog) 45 5 (.int .u8 0) 1 Try.underlying45 infoU8 rfl .i64 .i64 P (by omega) (by omega) w
  clear hok
  go_enter Try.func49, Try.ntmps49
  go_upto_region 1 with fail
  go_cut [5, 6] (fun v5 v6 wx => ∃ g : Nat, v6 = .slice (some ⟨g, 0, none⟩) P P ∧ Own wx w.heap.size 5 1 eB (.slice (some ⟨g, 0, none⟩) P P) (bsK s.data.toList P 0).1 ∧ Own wx w.heap.size 2 1 e1 v5 (bsK s.data.toList P 0).2 ∧ v5.ownBlock ≠ some g ∧ Below w.heap.size w wx)
  case first =>
    go_region
    · (try go_wp2_with fail)
      go_meet
      have m1 : Own ((w.alloc (.cells #[] 2)).alloc (.cells (madeCells #[.int .u8 0] P) 5)) w.heap.size 5 1 eB (.slice (some ⟨(w.alloc (.cells #[] 2)).heap.size, 0, none⟩) P P) (bsK s.data.toList P 0).1 := Own.lit _ _ _ _ P (by simp) (by simp [bsK]) (by simp [maxLen]; omega) eB_len (by simpa [bsK, eB] using madeK eB_len (by omega) (0 : UInt8) P)
      have o1 : Own (w.alloc (.cells #[] 2)) w.heap.size 2 1 e1 (.slice (some ⟨w.heap.size, 0, none⟩) 0 0) (bsK s.data.toList P 0).2 := Own.lit w _ _ [] 0 (Nat.le_refl _) rfl (by simp [maxLen]) e1_len rfl
      rw [show (w.alloc (.cells #[] 2)).heap.size = w.heap.size + 1 from by simp] at m1
      exact ⟨w.heap.size + 1, rfl, m1.drew, (o1.alloc _).drew, (by simp [Value.ownBlock]), ((below_alloc _ _).alloc (by simp) _).drew⟩
    · (try go_wp2_with fail)
      go_meet
      have m1 : Own (w.alloc (.cells (madeCells #[.int .u8 0] P) 5)) w.heap.size 5 1 eB (.slice (some ⟨w.heap.size, 0, none⟩) P P) (bsK s.data.toList P 0).1 := Own.lit _ _ _ _ P (Nat.le_refl _) (by simp [bsK]) (by simp [maxLen]; omega) eB_len (by simpa [bsK, eB] using madeK eB_len (by omega) (0 : UInt8) P)
      have o1 : Own ((w.alloc (.cells (madeCells #[.int .u8 0] P) 5)).alloc (.cells #[] 2)) w.heap.size 2 1 e1 (.slice (some ⟨(w.alloc (.cells (madeCells #[.int .u8 0] P) 5)).heap.size, 0, none⟩) 0 0) (bsK s.data.toList P 0).2 := Own.lit _ _ _ [] 0 (by simp) rfl (by simp [maxLen]) e1_len rfl
      rw [show (w.alloc (.cells (madeCells #[.int .u8 0] P) 5)).heap.size = w.heap.size + 1 from by simp] at o1
      exact ⟨w.heap.size, rfl, (m1.alloc _).drew, o1.drew, (by simp [Value.ownBlock]), ((below_alloc _ _).alloc (by simp) _).drew⟩
  case rest =>
    obtain ⟨g, rfl, hm1, ho1, ha1, hb1⟩ := hcut
    clear hmk
    go_wp2_with fail
    go_loopw [5, 18] (fun v i wr => ∃ k : Nat, k ≤ s.size ∧ i = .int .i64 k ∧ Own wr w.heap.size 5 1 eB (.slice (some ⟨g, 0, none⟩) P P) (bsK s.data.toList P k).1 ∧ Own wr w.heap.size 2 1 e1 v (bsK s.data.toList P k).2 ∧ Hid (v.ownBlock ≠ some g) ∧ Below w.heap.size w wr) (fun _ i _ => s.size - (intOf i).toNat)
    case atStart => exact ⟨0, by omega, rfl, hm1, ho1, ha1, hb1⟩
    case round =>
      obtain ⟨k, hk, rfl, hom, hoo, ha, hb⟩ := hrel
      by_cases hlt : k < s.size
      · have hc := Lib.hid (snocB s k hlt)
        have hml := (bsK_len s.data.toList P k).1
        have HML := Lib.hid hml
        have HST := Lib.hid (bsK_step (p := P) hc.out)
        have hrng := pickB_rng (l := s.data.toList) (m := (bsK s.data.toList P k).1) (i := k) (c := s[k]) (by rw [lenB]; omega) (by rw [hml]; exact hP1)
        obtain ⟨bn, HBN0⟩ := Int.eq_ofNat_of_zero_le hrng.1
        have HBN : Hid ((pickB s.data.toList (bsK s.data.toList P k).1 k s[k]).toNat = bn ∧ pickB s.data.toList (bsK s.data.toList P k).1 k s[k] = (bn : Int)) := ⟨by rw [HBN0]; rfl, HBN0⟩
        have hbn : bn < P := by rw [hml] at hrng; omega
        clear hrng HBN0 hml
        go_wp2_with fail
        refine (Index_any _ P P (bsK s.data.toList P k).1 s[k] _ (hom.sl eB_len) (by omega)).mono ?_
        rintro e w7 ⟨rfl, rfl⟩
        by_cases hf : findB (bsK s.data.toList P k).1 s[k] < (bsK s.data.toList P k).1.length
        · have HB1 : Hid (fiI (bsK s.data.toList P k).1 s[k] = (bn : Int)) := by
            rw [Hid, fiI_yes hf, ← HBN.out.2, pickB, if_pos hf]
          clear hf
          obtain ⟨dv, hdv⟩ : ∃ dv, (bsK s.data.toList P k).1[bn]? = some dv := ⟨_, List.getElem?_eq_getElem (by rw [(bsK_len s.data.toList P k).1]; exact hbn)⟩
          have d7 := hom.cellB hdv
          have f7 := hom.free bn
          have g3 : (bn : Int) < (P : Int) := by omega
          have hol := (bsK_len s.data.toList P k).2
          have HOL := Lib.hid hol
          have hgl := hom.blt.2
          clear hol hdv
          rw [HB1.out]
          go_wp2_with (at_builtin; refine wpList_app1x rfl (.tmp 59) (.tmp 61) 26 2 rfl w.heap.size i1 _ 1 8 Try.underlying26 hi1 hy0 hy1 hy2 rfl (by decide) e1 e1_len e1_one _ (bsK s.data.toList P k).2 rfl ((hoo.grown (only_setCell (World.grownBy.refl _ _) (.inl rfl) _) (.inr ha.out)).alloc _) (bn : Int) _ _ rfl (newcell _ _ _ _ (by simp)) (by have := HOL.out; omega) (by have := HOL.out; unfold maxLen; omega) (by have := hb.size; simp; omega) ?_; intro v9 w9 ho9 hb9 hg9 hat9)
          have hm9 := ((hom.setB bn s[k]).alloc _).grown hg9 (.inr fun h => ha.out h.symm)
          have hb10 := ((hb.setCell (by have := hom.blt.1; simp; omega) _).alloc (by have := hb.size; simp; omega) _).trans hb9
          have ha9 : Hid (v9.ownBlock ≠ some g) := by
            rcases hat9 with h | h
            · rw [Hid, h]; exact ha.out
            · rw [Hid, h]; intro e; injection e with e; simp at e; omega
          go_roundw
          case rel => exact ⟨k + 1, by omega, by go_num, by rw [HST.out, HBN.out.1]; exact hm9, by rw [HST.out, HBN.out.2]; exact ho9, ha9, hb10⟩
          case measure => simp [intOf]; omega
        · have HF : Hid (findB (bsK s.data.toList P k).1 s[k] = (bsK s.data.toList P k).1.length) := by
            have := findB_le (bsK s.data.toList P k).1 s[k]
            rw [Hid]; omega
          have HB0 : Hid (fiI (bsK s.data.toList P k).1 s[k] = -1) := fiI_no hf
          clear hf
          rw [HB0.out]
          go_wp2_with fail
          refine (Index0_any _ P P (bsK s.data.toList P k).1 _ (hom.sl eB_len) (by omega)).mono ?_
          rintro e w7 ⟨rfl, rfl⟩
          by_cases hf : findB (bsK s.data.toList P k).1 0 < (bsK s.data.toList P k).1.length
          · have HB1 : Hid (fiI (bsK s.data.toList P k).1 0 = (bn : Int)) := by
              rw [Hid, fiI_yes hf, ← HBN.out.2, pick_empty (by rw [lenB]; omega) HF.out hf]
            clear hf
            obtain ⟨dv, hdv⟩ : ∃ dv, (bsK s.data.toList P k).1[bn]? = some dv := ⟨_, List.getElem?_eq_getElem (by rw [(bsK_len s.data.toList P k).1]; exact hbn)⟩
            have d7 := hom.cellB hdv
            have f7 := hom.free bn
            have g3 : (bn : Int) < (P : Int) := by omega
            have hol := (bsK_len s.data.toList P k).2
            have HOL := Lib.hid hol
            have hgl := hom.blt.2
            clear hol hdv
            rw [HB1.out]
            go_wp2_with (at_builtin; refine wpList_app1x rfl (.tmp 59) (.tmp 61) 26 2 rfl w.heap.size i1 _ 1 8 Try.underlying26 hi1 hy0 hy1 hy2 rfl (by decide) e1 e1_len e1_one _ (bsK s.data.toList P k).2 rfl ((hoo.grown (only_setCell (World.grownBy.refl _ _) (.inl rfl) _) (.inr ha.out)).alloc _) (bn : Int) _ _ rfl (newcell _ _ _ _ (by simp)) (by have := HOL.out; omega) (by have := HOL.out; unfold maxLen; omega) (by have := hb.size; simp; omega) ?_; intro v9 w9 ho9 hb9 hg9 hat9)
            have hm9 := ((hom.setB bn s[k]).alloc _).grown hg9 (.inr fun h => ha.out h.symm)
            have hb10 := ((hb.setCell (by have := hom.blt.1; simp; omega) _).alloc (by have := hb.size; simp; omega) _).trans hb9
            have ha9 : Hid (v9.ownBlock ≠ some g) := by
              rcases hat9 with h | h
              · rw [Hid, h]; exact ha.out
              · rw [Hid, h]; intro e; injection e with e; simp at e; omega
            go_roundw
            case rel => exact ⟨k + 1, by omega, by go_num, by rw [HST.out, HBN.out.1]; exact hm9, by rw [HST.out, HBN.out.2]; exact ho9, ha9, hb10⟩
            case measure => simp [intOf]; omega
          · have HF0 : Hid (findB (bsK s.data.toList P k).1 0 = (bsK s.data.toList P k).1.length) := by
              have := findB_le (bsK s.data.toList P k).1 0
              rw [Hid]; omega
            have HB1 : Hid (fiI (bsK s.data.toList P k).1 0 = -1) := fiI_no hf
            have HFAR : Hid ((amJ (nxH s.data.toList (bsK s.data.toList P k).1 k) P).1 = (bn : Int)) := by
              rw [Hid, ← HBN.out.2, pick_far (by rw [HML.out]; exact hP1) HF.out HF0.out, HML.out]
            clear hf
            rw [HB1.out]
            obtain ⟨w7, hw7⟩ : ∃ w7, w7 = wr := ⟨_, rfl⟩
            subst hw7
            go_wp2_with fail
            go_loopw [8, 9, 34] (fun b far j wr => ∃ u : Nat, u ≤ P ∧ j = .int .i64 u ∧ b = .int .i64 (amJ (nxH s.data.toList (bsK s.data.toList P k).1 k) u).1 ∧ far = .int .i64 (amJ (nxH s.data.toList (bsK s.data.toList P k).1 k) u).2 ∧ Hid (∀ j y, j < u → (bsK s.data.toList P k).1[j]? = some y → findB (s.data.toList.drop k) y < (s.data.toList.drop k).length) ∧ wr = w7) (fun _ _ j _ => P - (intOf j).toNat)
            case atStart => exact ⟨0, by omega, rfl, rfl, rfl, (by intro j y hj; omega), rfl⟩
            case round =>
              obtain ⟨u, hu, rfl, rfl, rfl, hall, rfl⟩ := hrel
              by_cases hlt3 : u < P
              · obtain ⟨y, hy⟩ : ∃ y, (bsK s.data.toList P k).1[u]? = some y := ⟨_, List.getElem?_eq_getElem (by rw [HML.out]; exact hlt3)⟩
                have d0 := hom.cellB hy
                have HY := Lib.hid hy
                have g1 : (0 : Int) ≤ (k : Int) := by omega
                have g2 : (k : Int) ≤ (s.size : Int) := by omega
                have HG : Hid (nxH s.data.toList (bsK s.data.toList P k).1 k u = (findB (s.data.toList.drop k) y : Int)) := by rw [Hid, nxH, getD_at hy]
                clear hy
                by_cases hgone : findB (s.data.toList.drop k) y = (s.data.toList.drop k).length
                · have HI : Hid (Lib.indexByte (s.extract k s.size).data.toList ((y.toNat : Int)).toNat.toUInt8 = -1) := by
                    rw [Hid, u8_back, Lib.extract_to_end, indexByte_find, if_pos hgone]
                  have HE : Hid (((u : Nat) : Int) = (bn : Int)) := by
                    rw [Hid, ← HBN.out.2, pick_gone (by rw [lenB]; omega) HF.out HF0.out HY.out hgone hall.out]
                  clear hgone
                  go_wp2_with fail
                  refine (IndexByte_any _ _ _).mono ?_
                  rintro e w8 ⟨rfl, rfl⟩
                  rw [HI.out]
                  obtain rfl : bn = u := by have := HE.out; omega
                  obtain ⟨dv, hdv⟩ : ∃ dv, (bsK s.data.toList P k).1[bn]? = some dv := ⟨_, List.getElem?_eq_getElem (by rw [(bsK_len s.data.toList P k).1]; exact hbn)⟩
                  have d7 := hom.cellB hdv
                  have f7 := hom.free bn
                  have g3 : (bn : Int) < (P : Int) := by omega
                  have hol := (bsK_len s.data.toList P k).2
                  have HOL := Lib.hid hol
                  have hgl := hom.blt.2
                  clear hol hdv
                  go_wp2_with (at_builtin; refine wpList_app1x rfl (.tmp 59) (.tmp 61) 26 2 rfl w.heap.size i1 _ 1 8 Try.underlying26 hi1 hy0 hy1 hy2 rfl (by decide) e1 e1_len e1_one _ (bsK s.data.toList P k).2 rfl ((hoo.grown (only_setCell (World.grownBy.refl _ _) (.inl rfl) _) (.inr ha.out)).alloc _) (bn : Int) _ _ rfl (newcell _ _ _ _ (by simp)) (by have := HOL.out; omega) (by have := HOL.out; unfold maxLen; omega) (by have := hb.size; simp; omega) ?_; intro v9 w9 ho9 hb9 hg9 hat9)
                  have hm9 := ((hom.setB bn s[k]).alloc _).grown hg9 (.inr fun h => ha.out h.symm)
                  have hb10 := ((hb.setCell (by have := hom.blt.1; simp; omega) _).alloc (by have := hb.size; simp; omega) _).trans hb9
                  have ha9 : Hid (v9.ownBlock ≠ some g) := by
                    rcases hat9 with h | h
                    · rw [Hid, h]; exact ha.out
                    · rw [Hid, h]; intro e; injection e with e; simp at e; omega
                  go_roundw
                  case rel => exact ⟨k + 1, by omega, by go_num, by rw [HST.out, HBN.out.1]; exact hm9, by rw [HST.out, HBN.out.2]; exact ho9, ha9, hb10⟩
                  case measure => simp [intOf]; omega
                · have hle := findB_le (s.data.toList.drop k) y
                  have HI : Hid (Lib.indexByte (s.extract k s.size).data.toList ((y.toNat : Int)).toNat.toUInt8 = nxH s.data.toList (bsK s.data.toList P k).1 k u) := by
                    rw [Hid, u8_back, Lib.extract_to_end, indexByte_find, if_neg hgone, HG.out]
                  have HALL : Hid (∀ j y, j < u + 1 → (bsK s.data.toList P k).1[j]? = some y → findB (s.data.toList.drop k) y < (s.data.toList.drop k).length) := by
                    intro j z hj hz
                    by_cases hj2 : j < u
                    · exact hall.out j z hj2 hz
                    · have : j = u := by omega
                      subst this
                      have h1 := HY.out
                      rw [hz] at h1; injection h1 with h1; subst h1
                      omega
                  have hge := (nxH_bd (l := s.data.toList) (m := (bsK s.data.toList P k).1) (i := k) (k := u) (by rw [lenB]; omega)).1
                  clear hgone hle
                  generalize hX : nxH s.data.toList (bsK s.data.toList P k).1 k u = X at HI hge
                  have HX := Lib.hid hX
                  clear hX
                  by_cases hgt : (amJ (nxH s.data.toList (bsK s.data.toList P k).1 k) u).2 < X
                  · have HS := Lib.hid (amJ_yes (g := nxH s.data.toList (bsK s.data.toList P k).1 k) (k := u) (by rw [HX.out]; exact hgt))
                    go_wp2_with fail
                    refine (IndexByte_any _ _ _).mono ?_
                    rintro e w8 ⟨rfl, rfl⟩
                    rw [HI.out]
                    go_wp2_with fail
                    go_roundw
                    case rel => exact ⟨u + 1, by omega, by go_num, by rw [HS.out], by rw [HS.out, HX.out], HALL, trivial⟩
                    case measure => simp [intOf]; omega
                  · have HS := Lib.hid (amJ_no (g := nxH s.data.toList (bsK s.data.toList P k).1 k) (k := u) (by rw [HX.out]; exact hgt))
                    go_wp2_with fail
                    refine (IndexByte_any _ _ _).mono ?_
                    rintro e w8 ⟨rfl, rfl⟩
                    rw [HI.out]
                    go_wp2_with fail
                    go_roundw
                    case rel => exact ⟨u + 1, by omega, by go_num, by rw [HS.out], by rw [HS.out], HALL, trivial⟩
                    case measure => simp [intOf]; omega
              · have : u = P := by omega
                subst this
                obtain ⟨dv, hdv⟩ : ∃ dv, (bsK s.data.toList u k).1[bn]? = some dv := ⟨_, List.getElem?_eq_getElem (by rw [(bsK_len s.data.toList u k).1]; exact hbn)⟩
                have d7 := hom.cellB hdv
                have f7 := hom.free bn
                have g3 : (bn : Int) < (u : Int) := by omega
                have hol := (bsK_len s.data.toList u k).2
                have HOL := Lib.hid hol
                have hgl := hom.blt.2
                clear hol hdv
                rw [HFAR.out]
                go_wp2_with (at_builtin; refine wpList_app1x rfl (.tmp 59) (.tmp 61) 26 2 rfl w.heap.size i1 _ 1 8 Try.underlying26 hi1 hy0 hy1 hy2 rfl (by decide) e1 e1_len e1_one _ (bsK s.data.toList u k).2 rfl ((hoo.grown (only_setCell (World.grownBy.refl _ _) (.inl rfl) _) (.inr ha.out)).alloc _) (bn : Int) _ _ rfl (newcell _ _ _ _ (by simp)) (by have := HOL.out; omega) (by have := HOL.out; unfold maxLen; omega) (by have := hb.size; simp; omega) ?_; intro v9 w9 ho9 hb9 hg9 hat9)
                have hm9 := ((hom.setB bn s[k]).alloc _).grown hg9 (.inr fun h => ha.out h.symm)
                have hb10 := ((hb.setCell (by have := hom.blt.1; simp; omega) _).alloc (by have := hb.size; simp; omega) _).trans hb9
                have ha9 : Hid (v9.ownBlock ≠ some g) := by
                  rcases hat9 with h | h
                  · rw [Hid, h]; exact ha.out
                  · rw [Hid, h]; intro e; injection e with e; simp at e; omega
                go_roundw
                case rel => exact ⟨k + 1, by omega, by go_num, by rw [HST.out, HBN.out.1]; exact hm9, by rw [HST.out, HBN.out.2]; exact ho9, ha9, hb10⟩
                case measure => simp [intOf]; omega
      · have : k = s.size := by omega
        subst this
        go_wp2_with fail
        go_ret
        rw [HPL.out]
        exact RetOwn.mk hoo hb

end Go.Proofs.Ytodfomglhlamoaa
