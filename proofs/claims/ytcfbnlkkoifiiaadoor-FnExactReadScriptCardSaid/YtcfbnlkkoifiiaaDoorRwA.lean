/-
  What a row adds: the program.
-/
import Derived.Test.YtcfbnlkkoifiiaaDoorRsA
import Derived.Test.YtcfbnlkkoifiiaaDoorRsC
import Derived.Test.YtcfbnlkkoifiiaaDoorRnB
namespace Go.Proofs.YtcfbnlkkoifiiaaDoor
set_option maxRecDepth 100000
open Go.RowKit

set_option maxHeartbeats 6400000 in
theorem addRow_any (q : Pas) (base sb : Nat) (ss : List ByteArray) (xs : List AX) (row : ByteArray) (w : World) (H : BX q w base sb ss xs) (hl : ss.length ≤ 60) (hl2 : xs.length ≤ 60) (hs : row.size ≤ 1048577) (hM : Mx w) (hT : Tab w) (hS : Sent w) :
    Calls Tryd.prog 16 #[.pointer (some ⟨sb, 0, none⟩), .string row] w fun e w' => e = .returned (.int .i64 (rowF ss xs (wordsS row)).2.2) ∧ BX q w' base sb (rowF ss xs (wordsS row)).1 (rowF ss xs (wordsS row)).2.1 ∧ Below base w w' := by
  obtain ⟨A0, c0, B0, d0', hbx⟩ := H
  have hbase := hbx.base_le
  have HB : Hid (BX q w base sb ss xs) := ⟨A0, c0, B0, d0', hbx⟩
  clear hbx
  have hmm0 : ∀ i, i < (wordsS row).length → (wdG (wordsS row) i).size ≤ row.size ∧ (wdG (wordsS row) i).size ≠ 0 := fun i hi => wdG_mem hi
  generalize hwd : wordsS row = wd at hmm0 ⊢
  have HWD := Lib.hid hwd
  have HM0 := Lib.hid hmm0
  clear hwd hmm0
  go_enter Tryd.func16, Tryd.ntmps16
  go_wp2_with fail
  refine (SplitWords_any row _ hs hM).mono ?_
  rintro e w2 ⟨A, n, c, rfl, hSl, hb⟩
  rw [HWD.out] at hSl
  have HB2 : Hid (BX q w2 base sb ss xs) := HB.out.below hb
  have hbb : Below base w w2 := hb.mono hbase
  have HWL : Hid (wd.length = n) := hSl.1
  have hmm : ∀ i, i < n → (wdG wd i).size ≤ row.size ∧ (wdG wd i).size ≠ 0 := fun i hi => HM0.out i (by rw [HWL.out]; exact hi)
  clear HB
  by_cases h0 : n = 0
  · have HR : Hid (rowF ss xs wd = (ss, xs, 0)) := by rw [Hid, rowF, if_pos (.inl (by rw [HWL.out]; exact h0))]
    subst h0
    go_wp2_with fail
    go_ret
    exact ⟨by rw [HR.out]; rfl, by rw [HR.out]; exact HB2.out, hbb⟩
  · have hn0 : 0 < n := by omega
    obtain ⟨b, off, rfl, hc⟩ := hSl.word hn0
    have d0 := hc 0 hn0
    rw [Nat.add_zero] at d0
    have HC := Lib.hid hc
    have HSl := Lib.hid hSl
    have hz0 : 0 < (wdG wd 0).size := by have := (hmm 0 hn0).2; omega
    have hr1 := rem_at hz0
    have hn1 : ¬ n = 0 := h0
    have hnI : ((n : Int) == 0) = false := by rw [beq_eq_false_iff_ne]; omega
    clear hc hSl h0
    cases hr : remB wd
    · rw [hr] at hr1
      have HR1 : Hid (¬ (wd.length = 0 ∨ remB wd = true)) := by rw [Hid, HWL.out, hr]; simp; omega
      clear hr
      cases hsl : sldB wd
      · have hq0 : ((wdG wd 0).toList == [115, 108, 105, 100, 101]) = false := hsl
        cases hat : atWB wd
        · have HR : Hid (rowF ss xs wd = (ss, xs, 1)) := by rw [Hid, rowF, if_neg HR1.out, if_neg (by rw [hsl]; decide), if_pos hat]
          have hq2 : ((wdG wd 0).toList == [97, 116]) = false := hat
          have hq2' : ((wdG wd 0).toList != [97, 116]) = true := by rw [bne, hq2]; rfl
          clear hat hsl
          go_wp2_with fail
          go_ret
          exact ⟨by rw [HR.out]; rfl, by rw [HR.out]; exact HB2.out, hbb⟩
        · have hq2 : ((wdG wd 0).toList == [97, 116]) = true := hat
          have hq2' : ((wdG wd 0).toList != [97, 116]) = false := by rw [bne, hq2]; rfl
          have HRA : Hid (∀ v, (¬ (wd.length = 4 ∧ trnB wd = false ∨ wd.length = 5 ∧ trnB wd = true) → (ss, xs, (2 : Int)) = v) → ((wd.length = 4 ∧ trnB wd = false ∨ wd.length = 5 ∧ trnB wd = true) → (if (numF (wdG wd 1)).2 = false ∨ wd.length = 5 ∧ (numF (wdG wd 4)).2 = false then (ss, xs, (4 : Int)) else (ss, acNext ss xs (actW wd), acCode ss xs (actW wd))) = v) → rowF ss xs wd = v) := by
            intro v h1 h2
            rw [rowF, if_neg HR1.out, if_neg (by rw [hsl]; decide), if_neg (by rw [hat]; decide)]
            by_cases hh : wd.length = 4 ∧ trnB wd = false ∨ wd.length = 5 ∧ trnB wd = true
            · rw [if_neg (fun e => e hh)]; exact h2 hh
            · rw [if_pos hh]; exact h1 hh
          clear hat hsl
          by_cases hn2 : n ≤ 2
          · have HR : Hid (rowF ss xs wd = (ss, xs, 2)) := HRA.out _ (fun _ => rfl) (fun hh => by rw [HWL.out] at hh; exfalso; omega)
            go_wp2_with fail
            go_ret
            exact ⟨by rw [HR.out]; rfl, by rw [HR.out]; exact HB2.out, hbb⟩
          · have d2x := HC.out 2 (by omega)
            cases ht : trnB wd
            · have hqt : ((wdG wd 2).toList == [116, 117, 114, 110]) = false := ht
              by_cases h4 : n = 4
              · subst h4
                clear d2x
                have hok : wd.length = 4 ∧ trnB wd = false ∨ wd.length = 5 ∧ trnB wd = true := .inl ⟨by rw [HWL.out], ht⟩
                have HRO := Lib.hid hok
                have d1 := HC.out 1 (by omega)
                have d2 := HC.out 2 (by omega)
                have d3 := HC.out 3 (by omega)
                clear ht hok
                go_wp2_with fail
                refine (ReadDecimal_any (wdG wd 1) _ (by have := (hmm 1 (by omega)).1; omega) (hT.below hb) (hS.below hb)).mono ?_
                rintro e w3 ⟨rfl, b1⟩
                have lb : b < w2.heap.size := World.block_lt_of_cell? _ _ d0
                replace d2 := (b1.cell (p := ⟨b, off + 2, none⟩) lb).trans d2
                replace d3 := (b1.cell (p := ⟨b, off + 3, none⟩) lb).trans d3
                have hb13 := below_step hb b1
                have HB3 : Hid (BX q w3 base sb ss xs) := HB2.out.below b1
                generalize hN1 : numF (wdG wd 1) = N1
                have HN1 := Lib.hid hN1
                clear hN1
                obtain ⟨v1, o1⟩ := N1
                cases o1
                · have HR : Hid (rowF ss xs wd = (ss, xs, 4)) := HRA.out _ (fun e => absurd HRO.out e) (fun _ => by rw [if_pos (.inl (by rw [HN1.out]))])
                  go_wp2_with fail
                  go_ret
                  exact ⟨by rw [HR.out]; rfl, by rw [HR.out]; exact HB3.out, hb13.mono hbase⟩
                · have HA : Hid (actW wd = (v1, wdG wd 2, wdG wd 3, 0)) := by rw [Hid, actW, HN1.out, if_neg (by rw [HWL.out]; decide)]
                  have hneg : ¬ ((numF (wdG wd 1)).2 = false ∨ wd.length = 5 ∧ (numF (wdG wd 4)).2 = false) := by
                    rintro (e | ⟨e, _⟩)
                    · rw [HN1.out] at e; cases e
                    · rw [HWL.out] at e; omega
                  have HR : Hid (rowF ss xs wd = (ss, acNext ss xs (v1, wdG wd 2, wdG wd 3, 0), acCode ss xs (v1, wdG wd 2, wdG wd 3, 0))) := HRA.out _ (fun e => absurd HRO.out e) (fun _ => by rw [if_neg hneg, HA.out])
                  clear hneg
                  go_wp2_with fail
                  go_still_tail 10, (by kernel_rfl)
                  change wpList _ _ _ _ _ (World.drew w3)
                  have HBd : Hid (BX q (World.drew w3) base sb ss xs) := HB3.out.below (show Below (w3).heap.size w3 (World.drew w3) from ⟨rfl, rfl, rfl, Nat.le_refl _, fun _ _ => rfl⟩)
                  have hbd : Below w.heap.size w (World.drew w3) := hb13.drew
                  generalize World.drew w3 = wd2 at HBd hbd ⊢
                  go_wp2_with fail
                  refine (addAct_any q base sb ss xs (v1, wdG wd 2, wdG wd 3, 0) _ HBd.out hl hl2).mono ?_
                  rintro e w6 ⟨rfl, hB6, hb6⟩
                  go_wp2_with fail
                  go_ret
                  exact ⟨by rw [HR.out]; rfl, by rw [HR.out]; exact hB6, (hbd.mono hbase).trans hb6⟩
              · have HR : Hid (rowF ss xs wd = (ss, xs, 2)) := HRA.out _ (fun _ => rfl) (fun hh => by rw [HWL.out] at hh; exfalso; (rcases hh with ⟨h, _⟩ | ⟨_, h⟩ <;> first | omega | (rw [ht] at h; cases h)))
                go_wp2_with fail
                go_ret
                exact ⟨by rw [HR.out]; rfl, by rw [HR.out]; exact HB2.out, hbb⟩
            · have hqt : ((wdG wd 2).toList == [116, 117, 114, 110]) = true := ht
              by_cases h5 : n = 5
              · subst h5
                clear d2x
                have hok : wd.length = 4 ∧ trnB wd = false ∨ wd.length = 5 ∧ trnB wd = true := .inr ⟨by rw [HWL.out], ht⟩
                have HRO := Lib.hid hok
                have d1 := HC.out 1 (by omega)
                have d2 := HC.out 2 (by omega)
                have d3 := HC.out 3 (by omega)
                have d4 := HC.out 4 (by omega)
                clear ht hok
                go_wp2_with fail
                refine (ReadDecimal_any (wdG wd 1) _ (by have := (hmm 1 (by omega)).1; omega) (hT.below hb) (hS.below hb)).mono ?_
                rintro e w3 ⟨rfl, b1⟩
                have lb : b < w2.heap.size := World.block_lt_of_cell? _ _ d0
                replace d2 := (b1.cell (p := ⟨b, off + 2, none⟩) lb).trans d2
                replace d3 := (b1.cell (p := ⟨b, off + 3, none⟩) lb).trans d3
                replace d4 := (b1.cell (p := ⟨b, off + 4, none⟩) lb).trans d4
                have hb13 := below_step hb b1
                have HB3 : Hid (BX q w3 base sb ss xs) := HB2.out.below b1
                generalize hN1 : numF (wdG wd 1) = N1
                have HN1 := Lib.hid hN1
                clear hN1
                obtain ⟨v1, o1⟩ := N1
                go_wp2_with fail
                refine (ReadDecimal_any (wdG wd 4) _ (by have := (hmm 4 (by omega)).1; omega) (hT.below hb13) (hS.below hb13)).mono ?_
                rintro e w4 ⟨rfl, b4⟩
                have lb3 : b < w3.heap.size := Nat.lt_of_lt_of_le lb b1.size
                replace d2 := (b4.cell (p := ⟨b, off + 2, none⟩) lb3).trans d2
                replace d3 := (b4.cell (p := ⟨b, off + 3, none⟩) lb3).trans d3
                have hb14 := below_step hb13 b4
                have HB4 : Hid (BX q w4 base sb ss xs) := HB3.out.below b4
                generalize hN4 : numF (wdG wd 4) = N4
                have HN4 := Lib.hid hN4
                clear hN4
                obtain ⟨v4, o4⟩ := N4
                cases o1
                · have HR : Hid (rowF ss xs wd = (ss, xs, 4)) := HRA.out _ (fun e => absurd HRO.out e) (fun _ => by rw [if_pos (.inl (by rw [HN1.out]))])
                  go_wp2_with fail
                  go_ret
                  exact ⟨by rw [HR.out]; rfl, by rw [HR.out]; exact HB4.out, hb14.mono hbase⟩
                · cases o4
                  · have HR : Hid (rowF ss xs wd = (ss, xs, 4)) := HRA.out _ (fun e => absurd HRO.out e) (fun _ => by rw [if_pos (.inr ⟨by rw [HWL.out], by rw [HN4.out]⟩)])
                    go_wp2_with fail
                    go_ret
                    exact ⟨by rw [HR.out]; rfl, by rw [HR.out]; exact HB4.out, hb14.mono hbase⟩
                  · have HA : Hid (actW wd = (v1, wdG wd 2, wdG wd 3, v4)) := by rw [Hid, actW, HN1.out, if_pos (by rw [HWL.out]), HN4.out]
                    have hneg : ¬ ((numF (wdG wd 1)).2 = false ∨ wd.length = 5 ∧ (numF (wdG wd 4)).2 = false) := by
                      rintro (e | ⟨_, e⟩)
                      · rw [HN1.out] at e; cases e
                      · rw [HN4.out] at e; cases e
                    have HR : Hid (rowF ss xs wd = (ss, acNext ss xs (v1, wdG wd 2, wdG wd 3, v4), acCode ss xs (v1, wdG wd 2, wdG wd 3, v4))) := HRA.out _ (fun e => absurd HRO.out e) (fun _ => by rw [if_neg hneg, HA.out])
                    clear hneg
                    go_wp2_with fail
                    go_still_tail 10, (by kernel_rfl)
                    change wpList _ _ _ _ _ (World.drew w4)
                    have HBd : Hid (BX q (World.drew w4) base sb ss xs) := HB4.out.below (show Below (w4).heap.size w4 (World.drew w4) from ⟨rfl, rfl, rfl, Nat.le_refl _, fun _ _ => rfl⟩)
                    have hbd : Below w.heap.size w (World.drew w4) := hb14.drew
                    generalize World.drew w4 = wd2 at HBd hbd ⊢
                    go_wp2_with fail
                    refine (addAct_any q base sb ss xs (v1, wdG wd 2, wdG wd 3, v4) _ HBd.out hl hl2).mono ?_
                    rintro e w6 ⟨rfl, hB6, hb6⟩
                    go_wp2_with fail
                    go_ret
                    exact ⟨by rw [HR.out]; rfl, by rw [HR.out]; exact hB6, (hbd.mono hbase).trans hb6⟩
              · have HR : Hid (rowF ss xs wd = (ss, xs, 2)) := HRA.out _ (fun _ => rfl) (fun hh => by rw [HWL.out] at hh; exfalso; (rcases hh with ⟨_, h⟩ | ⟨h, _⟩ <;> first | omega | (rw [ht] at h; cases h)))
                go_wp2_with fail
                go_ret
                exact ⟨by rw [HR.out]; rfl, by rw [HR.out]; exact HB2.out, hbb⟩
      · have hq0 : ((wdG wd 0).toList == [115, 108, 105, 100, 101]) = true := hsl
        by_cases h2 : n = 2
        · have HR : Hid (rowF ss xs wd = (slNext ss (wdG wd 1), xs, slCode ss (wdG wd 1))) := by rw [Hid, rowF, if_neg HR1.out, if_pos hsl, if_pos (by rw [HWL.out]; exact h2)]
          have d1 := HC.out 1 (by omega)
          have hm1 := (hmm 1 (by omega)).1
          subst h2
          clear hsl
          go_wp2_with fail
          refine (addSlide_any q base sb ss xs (wdG wd 1) _ HB2.out hl (by unfold maxLen; omega)).mono ?_
          rintro e w3 ⟨rfl, hB3, hb3⟩
          go_wp2_with fail
          go_ret
          exact ⟨by rw [HR.out]; rfl, by rw [HR.out]; exact hB3, hbb.trans hb3⟩
        · have HR : Hid (rowF ss xs wd = (ss, xs, 2)) := by rw [Hid, rowF, if_neg HR1.out, if_pos hsl, if_neg (by rw [HWL.out]; exact h2)]
          clear hsl
          go_wp2_with fail
          go_ret
          exact ⟨by rw [HR.out]; rfl, by rw [HR.out]; exact HB2.out, hbb⟩
    · rw [hr] at hr1
      have HR : Hid (rowF ss xs wd = (ss, xs, 0)) := by rw [Hid, rowF, if_pos (.inr hr)]
      clear hr
      go_wp2_with fail
      go_ret
      exact ⟨by rw [HR.out]; rfl, by rw [HR.out]; exact HB2.out, hbb⟩
end Go.Proofs.YtcfbnlkkoifiiaaDoor
