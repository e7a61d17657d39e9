/-
  The least shifts, the program's exported function.
-/
import Derived.Test.YtnikpadclmjglaaLsC
namespace Go.Proofs.Ytnikpadclmjglaa
set_option maxRecDepth 100000
open Go.RowKit

theorem lsVal_no {xs : List Cu} {h : Int} (hc : hCode xs h ≠ 0) : lsVal xs h = [] := by rw [lsVal, if_neg fun e => hc e.1]
theorem lsCode_no {xs : List Cu} {h : Int} (hc : hCode xs h ≠ 0) : lsCode xs h = hCode xs h := by rw [lsCode, if_neg hc]

set_option maxHeartbeats 1600000 in
theorem implLeastShifts_any (A : Option Addr) (n c : Nat) (xs : List Cu) (h : Int) (w : World) (hL : Sl w 4 e4 A n xs) (hn : n ≤ 1048577) (_ht : In64 h) :
    Calls Try.prog 13 #[.slice A n c, .int .i64 h] w (RetOwnC 2 1 e1 (lsVal xs h) (lsCode xs h) w) := by
  have hbx : Below w.heap.size w ((w.alloc (.cells #[.slice A n c] 26)).alloc (.cells #[.int .i64 h] 2)) := (below_alloc w _).alloc (by simp) _
  rcases hCode_cases xs h with ⟨h1, hok⟩ | ⟨h1, hok, hin⟩ | ⟨h1, hok, hin⟩
  iterate 2
    · have HV : Hid (lsVal xs h = []) := lsVal_no (by rw [h1]; decide)
      have HC : Hid (lsCode xs h = hCode xs h) := lsCode_no (by rw [h1]; decide)
      have H1 := Lib.hid h1
      go_enter Try.func13, Try.ntmps13
      go_wp2_with fail
      refine (cuesCode_any A n c xs h _ ((hL.alloc _).alloc _) hn).mono ?_
      rintro e w2 ⟨rfl, hb⟩
      have hb2 := hbx.trans (hb.mono hbx.size)
      rw [H1.out]
      go_wp2_with fail
      go_ret2
      rw [HV.out, HC.out, H1.out]
      exact RetOwnC.none_ hb2
  · have ok := cueOk_iff.1 hok
    have H1 := Lib.hid h1
    go_enter Try.func13, Try.ntmps13
    go_wp2_with fail
    refine (cuesCode_any A n c xs h _ ((hL.alloc _).alloc _) hn).mono ?_
    rintro e w2 ⟨rfl, hb⟩
    have hb2 := hbx.trans (hb.mono hbx.size)
    have c2 : w2.cell? ⟨w.heap.size, 0, none⟩ = some (.slice A n c) := (hb.cell (by simp; omega)).trans (cell_al (newcell w #[.slice A n c] _ _ rfl 0) _)
    have c3 : w2.cell? ⟨w.heap.size + 1, 0, none⟩ = some (.int .i64 h) := (hb.cell (by simp)).trans (newcell _ #[.int .i64 h] _ _ (by simp) 0)
    have l3 := World.block_lt_of_cell? _ _ c3
    have l3' : w.heap.size + 1 < w2.heap.size := l3
    rw [H1.out]
    have hv : Own (w2.alloc (.cells #[] 2)) w.heap.size 2 1 e1 (.slice (some ⟨w2.heap.size, 0, none⟩) 0 0) ([] : List Int) := Own.lit w2 _ _ [] 0 hb2.size rfl (by simp [maxLen]) e1_len rfl
    have hbW := ((hb2.alloc hb2.size (.cells #[] 2)).alloc (by simp; omega) (.cells #[.slice (some ⟨w2.heap.size, 0, none⟩) 0 0] 30)).alloc (by simp; omega) (.cells #[.int .i64 (-1)] 2)
    have hI : IvL w.heap.size A n c (w2.heap.size + 2) w.heap.size (w.heap.size + 1) (w2.heap.size + 1) h ([], -1) (((w2.alloc (.cells #[] 2)).alloc (.cells #[.slice (some ⟨w2.heap.size, 0, none⟩) 0 0] 30)).alloc (.cells #[.int .i64 (-1)] 2)) :=
      ⟨newcell _ #[.int .i64 (-1)] _ _ (by simp) 0, by simp [go_sem], cell_al2 (cell_al c2 _) _ _, cell_al2 (cell_al c3 _) _ _, ⟨_, cell_al (newcell _ #[.slice (some ⟨w2.heap.size, 0, none⟩) 0 0] _ _ (by simp) 0) _, (hv.alloc _).alloc _, fun g hg => by injection hg with hg; subst hg; simp⟩, by simp [go_sem], by decide, by decide⟩
    have HI := Lib.hid hI
    have c2W := hI.c2
    clear hI hv
    go_wp2_with fail
    refine (allShifts_LS (fun k => k = w2.heap.size + 2 ∨ k = w2.heap.size + 1) (w2.heap.size + 3) (by rintro k (rfl | rfl) <;> omega) A n c xs ok hL.1 (fun hp a ha hs => by have := (hL.below hb2).lt hp a ha; omega) (w2.heap.size + 2) w.heap.size (w.heap.size + 1) (w2.heap.size + 1) (lsStep xs h) (IvL w.heap.size A n c (w2.heap.size + 2) w.heap.size (w.heap.size + 1) (w2.heap.size + 1) h) (fun st w w' hh hb => hh.below hb) (fun st s A' m d w' hB hI hL hS hm hsb => LeastShifts1_any w.heap.size A n c (w2.heap.size + 2) w.heap.size (w.heap.size + 1) (w2.heap.size + 1) (by omega) (by omega) (by omega) (by omega) (by omega) xs ok h st s A' m d w' (by omega) hI hL hS hm hsb) n [] none 0 0 ([], -1) _ (by omega) (by simp) HI.out (((hL.below hb2).alloc _).alloc _ |>.alloc _) (Sl.nil _) (fun a ha => by cases ha) (ShB.nil _)).mono ?_
    rintro e w4 ⟨rfl, hI4, hk4⟩
    rw [List.drop_zero] at hI4
    have hb4 := hk4.below (B := w.heap.size) (by rintro k (rfl | rfl) <;> omega) (by simp; omega)
    have hb5 := hbW.trans hb4
    have c8 := hI4.c8
    obtain ⟨v7, c7, ho7, _⟩ := hI4.c7
    change w4.cell? _ = some (.int .i64 (lsAll xs h).2) at c8
    change Own _ _ _ _ _ _ (lsAll xs h).1 at ho7
    clear hI4
    by_cases t1 : (lsAll xs h).2 < 0
    · have HV : Hid (lsVal xs h = []) := by rw [Hid, lsVal, if_neg fun e => absurd t1 (by have := e.2; omega)]
      have HC : Hid (lsCode xs h = 3) := by rw [Hid, lsCode, if_pos h1, if_neg (by omega)]
      have hd := decide_eq_true t1
      go_wp2_with fail
      go_ret2
      rw [HV.out, HC.out]
      exact RetOwnC.none_ hb5
    · have HV : Hid (lsVal xs h = (lsAll xs h).1) := by rw [Hid, lsVal, if_pos ⟨h1, by omega⟩]
      have HC : Hid (lsCode xs h = 0) := by rw [Hid, lsCode, if_pos h1, if_pos (by omega)]
      have hd := decide_eq_false t1
      go_wp2_with fail
      go_ret2
      rw [HV.out, HC.out]
      exact RetOwnC.mk ho7 hb5

end Go.Proofs.Ytnikpadclmjglaa
