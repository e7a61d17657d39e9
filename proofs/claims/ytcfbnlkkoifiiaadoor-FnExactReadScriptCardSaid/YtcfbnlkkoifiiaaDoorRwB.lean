/-
  What a row adds: the reference.
-/
import Derived.Test.YtcfbnlkkoifiiaaDoorRsC
import Derived.Test.YtcfbnlkkoifiiaaDoorRnC
namespace Go.Proofs.YtcfbnlkkoifiiaaDoor
set_option maxRecDepth 100000
open Go.RowKit

set_option maxHeartbeats 6400000 in
theorem l18Row_any (q : Pas) (base sb : Nat) (ss : List ByteArray) (xs : List AX) (row : ByteArray) (w : World) (H : BX q w base sb ss xs) (hl : ss.length ≤ 60) (hl2 : xs.length ≤ 60) (hs : row.size ≤ 1048577) :
    Calls Tryd.prog 14 #[.pointer (some ⟨sb, 0, none⟩), .string row] w fun e w' => e = .returned (.int .i64 (rowF ss xs (wordsS row)).2.2) ∧ BX q w' base sb (rowF ss xs (wordsS row)).1 (rowF ss xs (wordsS row)).2.1 ∧ Below base w w' := by
  obtain ⟨A0, c0, B0, d0', hbx⟩ := H
  have hbase := hbx.base_le
  have HB : Hid (BX q w base sb ss xs) := ⟨A0, c0, B0, d0', hbx⟩
  clear hbx
  have hmm0 : ∀ i, i < (wordsS row).length → (wdG (wordsS row) i).size ≤ row.size ∧ (wdG (wordsS row) i).size ≠ 0 := fun i hi => wdG_mem hi
  generalize hwd : wordsS row = wd at hmm0 ⊢
  have HWD := Lib.hid hwd
  have HM0 := Lib.hid hmm0
  clear hwd hmm0
  go_enter Tryd.func14, Tryd.ntmps14
  go_wp2_with fail
  refine (specSplitWords_any row _ hs).mono ?_
  rintro e w2 ⟨A, n, c, rfl, hSl, hb⟩
  rw [HWD.out] at hSl
  have HB2 : Hid (BX q w2 base sb ss xs) := HB.out.below hb
  have hbb : Below base w w2 := hb.mono hbase
  have HWL : Hid (wd.length = n) := hSl.1
  have hmm : ∀ i, i < n → (wdG wd i).size ≤ row.size ∧ (wdG wd i).size ≠ 0 := fun i hi => HM0.out i (by rw [HWL.out]; exact hi)
  clear HB
  by_cases h0 : n = 0
  · have HR : Hid (rowF ss xs wd = (ss, xs, 0)) := by rw [Hid, rowF, if_pos (.inl (by rw [HWL.out]; exact h0))]
    subst h0
    go_wp2_with fail
    go_ret
    exact ⟨by rw [HR.out]; rfl, by rw [HR.out]; exact HB2.out, hbb⟩
  · have hn0 : 0 < n := by omega
    obtain ⟨b, off, rfl, hc⟩ := hSl.word hn0
    have d0 := hc 0 hn0
    rw [Nat.add_zero] at d0
    have HC := Lib.hid hc
    have HSl := Lib.hid hSl
    have hz0 : 0 < (wdG wd 0).size := by have := (hmm 0 hn0).2; omega
    have hr1 := rem_at hz0
    have hn1 : ¬ n = 0 := h0
    have hnI : ((n : Int) == 0) = false := by rw [beq_eq_false_iff_ne]; omega
    clear hc hSl h0
    cases hr : remB wd
    · rw [hr] at hr1
      have HR1 : Hid (¬ (wd.length = 0 ∨ remB wd = true)) := by rw [Hid, HWL.out, hr]; simp; omega
      clear hr
      cases hsl : sldB wd
      · have hq0 : ((wdG wd 0).toList == [115, 108, 105, 100, 101]) = false := hsl
        cases hat : atWB wd
        · have HR : Hid (rowF ss xs wd = (ss, xs, 1)) := by rw [Hid, rowF, if_neg HR1.out, if_neg (by rw [hsl]; decide), if_pos hat]
          have hq2 : ((wdG wd 0).toList == [97, 116]) = false := hat
          have hq2' : ((wdG wd 0).toList != [97, 116]) = true := by rw [bne, hq2]; rfl
          clear hat hsl
          go_wp2_with fail
          go_ret
          exact ⟨by rw [HR.out]; rfl, by rw [HR.out]; exact HB2.out, hbb⟩
        · have hq2 : ((wdG wd 0).toList == [97, 116]) = true := hat
          have hq2' : ((wdG wd 0).toList != [97, 116]) = false := by rw [bne, hq2]; rfl
          have HRA : Hid (∀ v, (¬ (wd.length = 4 ∧ trnB wd = false ∨ wd.length = 5 ∧ trnB wd = true) → (ss, xs, (2 : Int)) = v) → ((wd.length = 4 ∧ trnB wd = false ∨ wd.length = 5 ∧ trnB wd = true) → (if (numF (wdG wd 1)).2 = false ∨ wd.length = 5 ∧ (numF (wdG wd 4)).2 = false then (ss, xs, (4 : Int)) else (ss, acNext ss xs (actW wd), acCode ss xs (actW wd))) = v) → rowF ss xs wd = v) := by
            intro v h1 h2
            rw [rowF, if_neg HR1.out, if_neg (by rw [hsl]; decide), if_neg (by rw [hat]; decide)]
            by_cases hh : wd.length = 4 ∧ trnB wd = false ∨ wd.length = 5 ∧ trnB wd = true
            · rw [if_neg (fun e => e hh)]; exact h2 hh
            · rw [if_pos hh]; exact h1 hh
          clear hat hsl
          by_cases hn4 : n < 4
          · have HR : Hid (rowF ss xs wd = (ss, xs, 2)) := HRA.out _ (fun _ => rfl) (fun hh => by rw [HWL.out] at hh; exfalso; omega)
            go_wp2_with fail
            go_ret
            exact ⟨by rw [HR.out]; rfl, by rw [HR.out]; exact HB2.out, hbb⟩
          · by_cases hn5 : 5 < n
            · have HR : Hid (rowF ss xs wd = (ss, xs, 2)) := HRA.out _ (fun _ => rfl) (fun hh => by rw [HWL.out] at hh; exfalso; omega)
              go_wp2_with fail
              go_ret
              exact ⟨by rw [HR.out]; rfl, by rw [HR.out]; exact HB2.out, hbb⟩
            · by_cases h4 : n = 4
              · subst h4
                have d1 := HC.out 1 (by omega)
                have d2 := HC.out 2 (by omega)
                have d3 := HC.out 3 (by omega)
                have al2 := cell_al d2 (.cells #[.int .i64 0, .string ⟨#[]⟩, .string ⟨#[]⟩, .int .i64 0] 49)
                have al3 := cell_al d3 (.cells #[.int .i64 0, .string ⟨#[]⟩, .string ⟨#[]⟩, .int .i64 0] 49)
                have lb : b < w2.heap.size := World.block_lt_of_cell? _ _ d0
                go_wp2_with fail
                go_region
                clear al2 al3
                generalize hW : (w2.alloc (.cells #[.int .i64 0, .string (wdG wd 2), .string (wdG wd 3), .int .i64 0] 49)).drew = wa
                have p0 : wa.cell? ⟨w2.heap.size, 0, none⟩ = some (.int .i64 0) := by rw [← hW]; exact newcell w2 #[.int .i64 0, .string (wdG wd 2), .string (wdG wd 3), .int .i64 0] _ _ rfl 0
                have p1 : wa.cell? ⟨w2.heap.size, 1, none⟩ = some (.string (wdG wd 2)) := by rw [← hW]; exact newcell w2 #[.int .i64 0, .string (wdG wd 2), .string (wdG wd 3), .int .i64 0] _ _ rfl 1
                have p2 : wa.cell? ⟨w2.heap.size, 2, none⟩ = some (.string (wdG wd 3)) := by rw [← hW]; exact newcell w2 #[.int .i64 0, .string (wdG wd 2), .string (wdG wd 3), .int .i64 0] _ _ rfl 2
                have p3 : wa.cell? ⟨w2.heap.size, 3, none⟩ = some (.int .i64 0) := by rw [← hW]; exact newcell w2 #[.int .i64 0, .string (wdG wd 2), .string (wdG wd 3), .int .i64 0] _ _ rfl 3
                have q0 : wa.frozen? ⟨w2.heap.size, 0, none⟩ = false := by rw [← hW]; simp
                have q3 : wa.frozen? ⟨w2.heap.size, 3, none⟩ = false := by rw [← hW]; simp
                have hxa : Below w2.heap.size w2 wa := by rw [← hW]; exact (below_alloc _ _).drew
                have lP : w2.heap.size < wa.heap.size := World.block_lt_of_cell? _ _ p0
                clear hW
                replace d1 := (hxa.cell (p := ⟨b, off + 1, none⟩) lb).trans d1
                replace d2 := (hxa.cell (p := ⟨b, off + 2, none⟩) lb).trans d2
                replace d3 := (hxa.cell (p := ⟨b, off + 3, none⟩) lb).trans d3
                cases ht : trnB wd
                · have hqt : ((wdG wd 2).toList == [116, 117, 114, 110]) = false := ht
                  have hok : wd.length = 4 ∧ trnB wd = false ∨ wd.length = 5 ∧ trnB wd = true := .inl ⟨by rw [HWL.out], ht⟩
                  have HRO := Lib.hid hok
                  clear ht hok
                  go_wp2_with fail
                  refine (l01Number_any (wdG wd 1) _ (by have := (hmm 1 (by omega)).1; omega)).mono ?_
                  rintro e w3 ⟨rfl, b1⟩
                  have hx3 := below_step hxa b1
                  replace p0 := (b1.cell (p := ⟨w2.heap.size, 0, none⟩) lP).trans p0
                  replace p1 := (b1.cell (p := ⟨w2.heap.size, 1, none⟩) lP).trans p1
                  replace p2 := (b1.cell (p := ⟨w2.heap.size, 2, none⟩) lP).trans p2
                  replace p3 := (b1.cell (p := ⟨w2.heap.size, 3, none⟩) lP).trans p3
                  replace q0 := (b1.frozen (p := ⟨w2.heap.size, 0, none⟩) lP).trans q0
                  replace q3 := (b1.frozen (p := ⟨w2.heap.size, 3, none⟩) lP).trans q3
                  generalize hN1 : numF (wdG wd 1) = N1
                  have HN1 := Lib.hid hN1
                  clear hN1
                  obtain ⟨v1, o1⟩ := N1
                  cases o1
                  · have HR : Hid (rowF ss xs wd = (ss, xs, 4)) := HRA.out _ (fun e => absurd HRO.out e) (fun _ => by rw [if_pos (.inl (by rw [HN1.out]))])
                    go_wp2_with fail
                    go_ret
                    exact ⟨by rw [HR.out]; rfl, by rw [HR.out]; exact HB2.out.below hx3, (hb.trans (Below.mono hx3 hb.size)).mono hbase⟩
                  · have HA : Hid (actW wd = (v1, wdG wd 2, wdG wd 3, 0)) := by rw [Hid, actW, HN1.out, if_neg (by rw [HWL.out]; decide)]
                    have hneg : ¬ ((numF (wdG wd 1)).2 = false ∨ wd.length = 5 ∧ (numF (wdG wd 4)).2 = false) := by
                      rintro (e | ⟨e, _⟩)
                      · rw [HN1.out] at e; cases e
                      · rw [HWL.out] at e; omega
                    have HR : Hid (rowF ss xs wd = (ss, acNext ss xs (v1, wdG wd 2, wdG wd 3, 0), acCode ss xs (v1, wdG wd 2, wdG wd 3, 0))) := HRA.out _ (fun e => absurd HRO.out e) (fun _ => by rw [if_neg hneg, HA.out])
                    clear hneg
                    go_wp2_with fail
                    have hx4 : Below w2.heap.size w2 (w3.setCell ⟨w2.heap.size, 0, none⟩ (.int .i64 v1)) := hx3.setCell (Nat.le_refl _) _
                    have HB4 : Hid (BX q (w3.setCell ⟨w2.heap.size, 0, none⟩ (.int .i64 v1)) base sb ss xs) := HB2.out.below hx4
                    refine (l18Act_any q base sb ss xs (v1, wdG wd 2, wdG wd 3, 0) _ HB4.out hl hl2).mono ?_
                    rintro e w6 ⟨rfl, hB6, hb6⟩
                    go_wp2_with fail
                    go_ret
                    exact ⟨by rw [HR.out]; rfl, by rw [HR.out]; exact hB6, ((hb.trans (hx4.mono hb.size)).mono hbase).trans hb6⟩
                · have hqt : ((wdG wd 2).toList == [116, 117, 114, 110]) = true := ht
                  have HR : Hid (rowF ss xs wd = (ss, xs, 2)) := HRA.out _ (fun _ => rfl) (fun hh => by rw [HWL.out] at hh; exfalso; rcases hh with ⟨h, e⟩ | ⟨h, e⟩ <;> first | omega | (rw [ht] at e; cases e))
                  go_wp2_with fail
                  go_ret
                  exact ⟨by rw [HR.out]; rfl, by rw [HR.out]; exact HB2.out.below hxa, (hb.trans (Below.mono hxa hb.size)).mono hbase⟩
              · have h5 : n = 5 := by omega
                subst h5
                have d1 := HC.out 1 (by omega)
                have d2 := HC.out 2 (by omega)
                have d3 := HC.out 3 (by omega)
                have d4 := HC.out 4 (by omega)
                have al2 := cell_al d2 (.cells #[.int .i64 0, .string ⟨#[]⟩, .string ⟨#[]⟩, .int .i64 0] 49)
                have al3 := cell_al d3 (.cells #[.int .i64 0, .string ⟨#[]⟩, .string ⟨#[]⟩, .int .i64 0] 49)
                have lb : b < w2.heap.size := World.block_lt_of_cell? _ _ d0
                go_wp2_with fail
                go_region
                clear al2 al3
                generalize hW : (w2.alloc (.cells #[.int .i64 0, .string (wdG wd 2), .string (wdG wd 3), .int .i64 0] 49)).drew = wa
                have p0 : wa.cell? ⟨w2.heap.size, 0, none⟩ = some (.int .i64 0) := by rw [← hW]; exact newcell w2 #[.int .i64 0, .string (wdG wd 2), .string (wdG wd 3), .int .i64 0] _ _ rfl 0
                have p1 : wa.cell? ⟨w2.heap.size, 1, none⟩ = some (.string (wdG wd 2)) := by rw [← hW]; exact newcell w2 #[.int .i64 0, .string (wdG wd 2), .string (wdG wd 3), .int .i64 0] _ _ rfl 1
                have p2 : wa.cell? ⟨w2.heap.size, 2, none⟩ = some (.string (wdG wd 3)) := by rw [← hW]; exact newcell w2 #[.int .i64 0, .string (wdG wd 2), .string (wdG wd 3), .int .i64 0] _ _ rfl 2
                have p3 : wa.cell? ⟨w2.heap.size, 3, none⟩ = some (.int .i64 0) := by rw [← hW]; exact newcell w2 #[.int .i64 0, .string (wdG wd 2), .string (wdG wd 3), .int .i64 0] _ _ rfl 3
                have q0 : wa.frozen? ⟨w2.heap.size, 0, none⟩ = false := by rw [← hW]; simp
                have q3 : wa.frozen? ⟨w2.heap.size, 3, none⟩ = false := by rw [← hW]; simp
                have hxa : Below w2.heap.size w2 wa := by rw [← hW]; exact (below_alloc _ _).drew
                have lP : w2.heap.size < wa.heap.size := World.block_lt_of_cell? _ _ p0
                clear hW
                replace d1 := (hxa.cell (p := ⟨b, off + 1, none⟩) lb).trans d1
                replace d2 := (hxa.cell (p := ⟨b, off + 2, none⟩) lb).trans d2
                replace d3 := (hxa.cell (p := ⟨b, off + 3, none⟩) lb).trans d3
                replace d4 := (hxa.cell (p := ⟨b, off + 4, none⟩) lb).trans d4
                cases ht : trnB wd
                · have hqt : ((wdG wd 2).toList == [116, 117, 114, 110]) = false := ht
                  have HR : Hid (rowF ss xs wd = (ss, xs, 2)) := HRA.out _ (fun _ => rfl) (fun hh => by rw [HWL.out] at hh; exfalso; rcases hh with ⟨h, e⟩ | ⟨h, e⟩ <;> first | omega | (rw [ht] at e; cases e))
                  go_wp2_with fail
                  go_ret
                  exact ⟨by rw [HR.out]; rfl, by rw [HR.out]; exact HB2.out.below hxa, (hb.trans (Below.mono hxa hb.size)).mono hbase⟩
                · have hqt : ((wdG wd 2).toList == [116, 117, 114, 110]) = true := ht
                  have hok : wd.length = 4 ∧ trnB wd = false ∨ wd.length = 5 ∧ trnB wd = true := .inr ⟨by rw [HWL.out], ht⟩
                  have HRO := Lib.hid hok
                  clear ht hok
                  go_wp2_with fail
                  refine (l01Number_any (wdG wd 1) _ (by have := (hmm 1 (by omega)).1; omega)).mono ?_
                  rintro e w3 ⟨rfl, b1⟩
                  have hx3 := below_step hxa b1
                  replace p0 := (b1.cell (p := ⟨w2.heap.size, 0, none⟩) lP).trans p0
                  replace p1 := (b1.cell (p := ⟨w2.heap.size, 1, none⟩) lP).trans p1
                  replace p2 := (b1.cell (p := ⟨w2.heap.size, 2, none⟩) lP).trans p2
                  replace p3 := (b1.cell (p := ⟨w2.heap.size, 3, none⟩) lP).trans p3
                  replace q0 := (b1.frozen (p := ⟨w2.heap.size, 0, none⟩) lP).trans q0
                  replace q3 := (b1.frozen (p := ⟨w2.heap.size, 3, none⟩) lP).trans q3
                  generalize hN1 : numF (wdG wd 1) = N1
                  have HN1 := Lib.hid hN1
                  clear hN1
                  obtain ⟨v1, o1⟩ := N1
                  cases o1
                  · have HR : Hid (rowF ss xs wd = (ss, xs, 4)) := HRA.out _ (fun e => absurd HRO.out e) (fun _ => by rw [if_pos (.inl (by rw [HN1.out]))])
                    go_wp2_with fail
                    go_ret
                    exact ⟨by rw [HR.out]; rfl, by rw [HR.out]; exact HB2.out.below hx3, (hb.trans (Below.mono hx3 hb.size)).mono hbase⟩
                  · have hx4 : Below w2.heap.size w2 (w3.setCell ⟨w2.heap.size, 0, none⟩ (.int .i64 v1)) := hx3.setCell (Nat.le_refl _) _
                    have r0 : (w3.setCell ⟨w2.heap.size, 0, none⟩ (.int .i64 v1)).cell? ⟨w2.heap.size, 0, none⟩ = some (.int .i64 v1) := World.cell?_setCell_same _ _ _ p0
                    have r1 : (w3.setCell ⟨w2.heap.size, 0, none⟩ (.int .i64 v1)).cell? ⟨w2.heap.size, 1, none⟩ = some (.string (wdG wd 2)) := (World.cell?_setCell_other _ _ _ _ (by simp)).trans p1
                    have r2 : (w3.setCell ⟨w2.heap.size, 0, none⟩ (.int .i64 v1)).cell? ⟨w2.heap.size, 2, none⟩ = some (.string (wdG wd 3)) := (World.cell?_setCell_other _ _ _ _ (by simp)).trans p2
                    have r3 : (w3.setCell ⟨w2.heap.size, 0, none⟩ (.int .i64 v1)).cell? ⟨w2.heap.size, 3, none⟩ = some (.int .i64 0) := (World.cell?_setCell_other _ _ _ _ (by simp)).trans p3
                    have r4 : (w3.setCell ⟨w2.heap.size, 0, none⟩ (.int .i64 v1)).frozen? ⟨w2.heap.size, 3, none⟩ = false := by rw [World.frozen?_setCell]; exact q3
                    have d4' : (w3.setCell ⟨w2.heap.size, 0, none⟩ (.int .i64 v1)).cell? ⟨b, off + 4, none⟩ = some (.string (wdG wd 4)) := by
                      rw [World.cell?_setCell_other _ _ _ _ (by intro e; injection e; omega)]
                      exact (b1.cell (p := ⟨b, off + 4, none⟩) (Nat.lt_trans lb lP)).trans d4
                    have lQ : w2.heap.size < (w3.setCell ⟨w2.heap.size, 0, none⟩ (.int .i64 v1)).heap.size := World.block_lt_of_cell? _ _ r0
                    go_wp2_with fail
                    generalize w3.setCell ⟨w2.heap.size, 0, none⟩ (.int .i64 v1) = wq at hx4 r0 r1 r2 r3 r4 d4' lQ ⊢
                    refine (l01Number_any (wdG wd 4) _ (by have := (hmm 4 (by omega)).1; omega)).mono ?_
                    rintro e w5 ⟨rfl, b5⟩
                    clear p0 p1 p2 p3 q0 q3
                    have hx5 := below_step hx4 b5
                    replace r0 := (b5.cell (p := ⟨w2.heap.size, 0, none⟩) lQ).trans r0
                    replace r1 := (b5.cell (p := ⟨w2.heap.size, 1, none⟩) lQ).trans r1
                    replace r2 := (b5.cell (p := ⟨w2.heap.size, 2, none⟩) lQ).trans r2
                    replace r3 := (b5.cell (p := ⟨w2.heap.size, 3, none⟩) lQ).trans r3
                    replace r4 := (b5.frozen (p := ⟨w2.heap.size, 3, none⟩) lQ).trans r4
                    generalize hN4 : numF (wdG wd 4) = N4
                    have HN4 := Lib.hid hN4
                    clear hN4
                    obtain ⟨v4, o4⟩ := N4
                    cases o4
                    · have HR : Hid (rowF ss xs wd = (ss, xs, 4)) := HRA.out _ (fun e => absurd HRO.out e) (fun _ => by rw [if_pos (.inr ⟨by rw [HWL.out], by rw [HN4.out]⟩)])
                      go_wp2_with fail
                      go_ret
                      exact ⟨by rw [HR.out]; rfl, by rw [HR.out]; exact HB2.out.below hx5, (hb.trans (Below.mono hx5 hb.size)).mono hbase⟩
                    · have HA : Hid (actW wd = (v1, wdG wd 2, wdG wd 3, v4)) := by rw [Hid, actW, HN1.out, if_pos (by rw [HWL.out]), HN4.out]
                      have hneg : ¬ ((numF (wdG wd 1)).2 = false ∨ wd.length = 5 ∧ (numF (wdG wd 4)).2 = false) := by
                        rintro (e | ⟨_, e⟩)
                        · rw [HN1.out] at e; cases e
                        · rw [HN4.out] at e; cases e
                      have HR : Hid (rowF ss xs wd = (ss, acNext ss xs (v1, wdG wd 2, wdG wd 3, v4), acCode ss xs (v1, wdG wd 2, wdG wd 3, v4))) := HRA.out _ (fun e => absurd HRO.out e) (fun _ => by rw [if_neg hneg, HA.out])
                      clear hneg
                      go_wp2_with fail
                      have hx6 : Below w2.heap.size w2 (w5.setCell ⟨w2.heap.size, 3, none⟩ (.int .i64 v4)) := hx5.setCell (Nat.le_refl _) _
                      have HB6 : Hid (BX q (w5.setCell ⟨w2.heap.size, 3, none⟩ (.int .i64 v4)) base sb ss xs) := HB2.out.below hx6
                      refine (l18Act_any q base sb ss xs (v1, wdG wd 2, wdG wd 3, v4) _ HB6.out hl hl2).mono ?_
                      rintro e w6 ⟨rfl, hB6, hb6⟩
                      go_wp2_with fail
                      go_ret
                      exact ⟨by rw [HR.out]; rfl, by rw [HR.out]; exact hB6, ((hb.trans (hx6.mono hb.size)).mono hbase).trans hb6⟩
      · have hq0 : ((wdG wd 0).toList == [115, 108, 105, 100, 101]) = true := hsl
        by_cases h2 : n = 2
        · have HR : Hid (rowF ss xs wd = (slNext ss (wdG wd 1), xs, slCode ss (wdG wd 1))) := by rw [Hid, rowF, if_neg HR1.out, if_pos hsl, if_pos (by rw [HWL.out]; exact h2)]
          have d1 := HC.out 1 (by omega)
          have hm1 := (hmm 1 (by omega)).1
          subst h2
          clear hsl
          go_wp2_with fail
          refine (l18Slide_any q base sb ss xs (wdG wd 1) _ HB2.out hl (by unfold maxLen; omega)).mono ?_
          rintro e w3 ⟨rfl, hB3, hb3⟩
          go_wp2_with fail
          go_ret
          exact ⟨by rw [HR.out]; rfl, by rw [HR.out]; exact hB3, hbb.trans hb3⟩
        · have HR : Hid (rowF ss xs wd = (ss, xs, 2)) := by rw [Hid, rowF, if_neg HR1.out, if_pos hsl, if_neg (by rw [HWL.out]; exact h2)]
          clear hsl
          go_wp2_with fail
          go_ret
          exact ⟨by rw [HR.out]; rfl, by rw [HR.out]; exact HB2.out, hbb⟩
    · rw [hr] at hr1
      have HR : Hid (rowF ss xs wd = (ss, xs, 0)) := by rw [Hid, rowF, if_pos (.inr hr)]
      clear hr
      go_wp2_with fail
      go_ret
      exact ⟨by rw [HR.out]; rfl, by rw [HR.out]; exact HB2.out, hbb⟩
end Go.Proofs.YtcfbnlkkoifiiaaDoor
