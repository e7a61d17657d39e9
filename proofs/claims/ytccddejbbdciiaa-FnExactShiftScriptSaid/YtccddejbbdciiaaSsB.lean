/-
  Scripts: a later script: the program's side.
-/
import Derived.Test.YtccddejbbdciiaaSs
import Derived.Deep.RegionHeld3
import Derived.Lib.SliceRun
import Derived.Deep.DeepCutAuto
namespace Go.Proofs.Ytccddejbbdciiaa
open Go.RowKit Go.Deep Go.Joins

theorem CloneStr_any (A : Option Addr) (n c : Nat) (xs : List ByteArray) (w : World) (h : Sl w 1 eS A n xs) (hn : n ≤ 1048577) :
    Calls Try.prog 35 #[.slice A n c] w (RetOwn 9 1 eS xs w) := by
  obtain ⟨i0, hi0, hz0, hz1, hz2⟩ := info_parts infoStr
  have q22 : ∀ (w : World) (a : Option Addr) (n c n' c' : Nat), (binOp .eql 22 (.slice a n c) (.slice none n' c')).run Try.prog w = .ok (.bool a.isNone) w := fun w a n c n' c' => Lib.run_eql_slice_nil w _ _ a n c n' c' Try.underlying22
  cases A with
  | none =>
    have hx : xs = [] := by
      rcases Nat.eq_zero_or_pos n with h0 | h0
      · exact List.eq_nil_of_length_eq_zero (by rw [h.1, h0])
      · obtain ⟨b, off, e, _⟩ := h.2 h0; cases e
    subst hx
    go_enter Try.func35, Try.ntmps35
    go_wp2
    go_ret
    exact RetOwn.mk Own.none_ (Below.refl _ _)
  | some a =>
    have hst : Own (w.alloc (.cells #[] 9)) w.heap.size 9 1 eS (.slice (some ⟨w.heap.size, 0, none⟩) 0 0) ([] : List ByteArray) := Own.lit w _ _ [] 0 (Nat.le_refl _) rfl (by simp [maxLen]) eS_len rfl
    go_enter Try.func35, Try.ntmps35
    go_wp2_with (at_builtin; refine wpList_appS rfl (.tmp 5) (.tmp 6) 22 9 rfl w.heap.size i0 _ 1 16 Try.underlying22 hi0 hz0 hz1 hz2 rfl (by decide) eS eS_len eS_one _ ([] : List ByteArray) rfl hst (some a) n c xs rfl (fun h => by cases h) (h.alloc _) (by simp; omega) (by simp [maxLen]; omega) (by simp) ?_; intro v9 w9 ho9 hb9 hg9 hn9)
    go_ret
    exact RetOwn.mk (by simpa using ho9) ((below_alloc _ _).trans hb9)

theorem CloneAct_any (A : Option Addr) (n c : Nat) (xs : List AX) (w : World) (h : Sl w 4 eAct A n xs) (hn : n ≤ 1048577) :
    Calls Try.prog 36 #[.slice A n c] w (RetOwn 47 4 eAct xs w) := by
  obtain ⟨i0, hi0, hz0, hz1, hz2⟩ := info_parts infoAct
  have q22 : ∀ (w : World) (a : Option Addr) (n c n' c' : Nat), (binOp .eql 29 (.slice a n c) (.slice none n' c')).run Try.prog w = .ok (.bool a.isNone) w := fun w a n c n' c' => Lib.run_eql_slice_nil w _ _ a n c n' c' Try.underlying29
  cases A with
  | none =>
    have hx : xs = [] := by
      rcases Nat.eq_zero_or_pos n with h0 | h0
      · exact List.eq_nil_of_length_eq_zero (by rw [h.1, h0])
      · obtain ⟨b, off, e, _⟩ := h.2 h0; cases e
    subst hx
    go_enter Try.func36, Try.ntmps36
    go_wp2
    go_ret
    exact RetOwn.mk Own.none_ (Below.refl _ _)
  | some a =>
    have hst : Own (w.alloc (.cells #[] 47)) w.heap.size 47 4 eAct (.slice (some ⟨w.heap.size, 0, none⟩) 0 0) ([] : List AX) := Own.lit w _ _ [] 0 (Nat.le_refl _) rfl (by simp [maxLen]) eAct_len rfl
    go_enter Try.func36, Try.ntmps36
    go_wp2_with (at_builtin; refine wpList_appS rfl (.tmp 5) (.tmp 6) 29 47 rfl w.heap.size i0 _ 4 48 Try.underlying29 hi0 hz0 hz1 hz2 rfl (by decide) eAct eAct_len eAct_one _ ([] : List AX) rfl hst (some a) n c xs rfl (fun h => by cases h) (h.alloc _) (by simp; omega) (by simp [maxLen]; omega) (by simp) ?_; intro v9 w9 ho9 hb9 hg9 hn9)
    go_ret
    exact RetOwn.mk (by simpa using ho9) ((below_alloc _ _).trans hb9)

set_option maxHeartbeats 3200000 in
theorem implShiftScript_any (ga n : Nat) (ss : List ByteArray) (gb m : Nat) (xs : List AX) (b : Int) (w : World) (h : Sl w 1 eS (some ⟨ga, 0, none⟩) n ss) (h2 : Sl w 4 eAct (some ⟨gb, 0, none⟩) m xs) (hn : n ≤ 1048577) (hm : m ≤ 1048577) (hz : ∀ s ∈ ss, s.size ≤ maxLen) :
    Calls Try.prog 18 #[.agg #[.slice (some ⟨ga, 0, none⟩) n n, .slice (some ⟨gb, 0, none⟩) m m], .int .i64 b] w fun e w' => RetScr (ssS ss xs b) (ssA ss xs b) (ssCode ss xs b) w e w' := by
  obtain ⟨i0, hi0, hz0, hz1, hz2⟩ := info_parts infoStr
  obtain ⟨j0, hj0, hk0, hk1, hk2⟩ := info_parts infoAct
  cases qv : vScr ss xs
  · have HC : Hid (ssCode ss xs b = 1) := by rw [Hid, ssCode, if_pos qv]
    have HS := Lib.hid (ssS_no HC.out (by decide))
    have HA := Lib.hid (ssA_no HC.out (by decide))
    have hW : Below w.heap.size w ((w.alloc (.cells #[.slice (some ⟨ga, 0, none⟩) n n, .slice (some ⟨gb, 0, none⟩) m m] 31)).alloc (.cells #[.slice none 0 0, .slice none 0 0] 31)) := (below_alloc w _).alloc (by simp) _
    have x0 : ((w.alloc (.cells #[.slice (some ⟨ga, 0, none⟩) n n, .slice (some ⟨gb, 0, none⟩) m m] 31)).alloc (.cells #[.slice none 0 0, .slice none 0 0] 31)).cell? ⟨w.heap.size, 0, none⟩ = some (.slice (some ⟨ga, 0, none⟩) n n) := by simp [go_sem]
    have x1 : ((w.alloc (.cells #[.slice (some ⟨ga, 0, none⟩) n n, .slice (some ⟨gb, 0, none⟩) m m] 31)).alloc (.cells #[.slice none 0 0, .slice none 0 0] 31)).cell? ⟨w.heap.size, 1, none⟩ = some (.slice (some ⟨gb, 0, none⟩) m m) := by simp [go_sem]
    have r0 : ((w.alloc (.cells #[.slice (some ⟨ga, 0, none⟩) n n, .slice (some ⟨gb, 0, none⟩) m m] 31)).alloc (.cells #[.slice none 0 0, .slice none 0 0] 31)).cell? ⟨w.heap.size + 1, 0, none⟩ = some (.slice none 0 0) := by simp [go_sem]
    have r1 : ((w.alloc (.cells #[.slice (some ⟨ga, 0, none⟩) n n, .slice (some ⟨gb, 0, none⟩) m m] 31)).alloc (.cells #[.slice none 0 0, .slice none 0 0] 31)).cell? ⟨w.heap.size + 1, 1, none⟩ = some (.slice none 0 0) := by simp [go_sem]
    have y0 : ((w.alloc (.cells #[.slice (some ⟨ga, 0, none⟩) n n, .slice (some ⟨gb, 0, none⟩) m m] 31)).alloc (.cells #[.slice none 0 0, .slice none 0 0] 31)).frozen? ⟨w.heap.size + 1, 0, none⟩ = false := by simp [go_sem]
    have y1 : ((w.alloc (.cells #[.slice (some ⟨ga, 0, none⟩) n n, .slice (some ⟨gb, 0, none⟩) m m] 31)).alloc (.cells #[.slice none 0 0, .slice none 0 0] 31)).frozen? ⟨w.heap.size + 1, 1, none⟩ = false := by simp [go_sem]
    have hB : w.heap.size + 2 ≤ ((w.alloc (.cells #[.slice (some ⟨ga, 0, none⟩) n n, .slice (some ⟨gb, 0, none⟩) m m] 31)).alloc (.cells #[.slice none 0 0, .slice none 0 0] 31)).heap.size := by simp
    go_enter Try.func18, Try.ntmps18
    go_wp2_with fail
    generalize ((w.alloc (.cells #[.slice (some ⟨ga, 0, none⟩) n n, .slice (some ⟨gb, 0, none⟩) m m] 31)).alloc (.cells #[.slice none 0 0, .slice none 0 0] 31)) = W0 at hW x0 x1 r0 r1 y0 y1 hB ⊢
    refine (implValidScript_any _ n n ss _ m m xs _ (h.below hW) (h2.below hW) hn hm hz).mono ?_
    rintro e w2 ⟨rfl, hb2⟩
    replace y0 := (hb2.frozen (World.block_lt_of_cell? _ _ r0)).trans y0
    replace y1 := (hb2.frozen (World.block_lt_of_cell? _ _ r1)).trans y1
    replace x0 := (hb2.cell (World.block_lt_of_cell? _ _ x0)).trans x0
    replace x1 := (hb2.cell (World.block_lt_of_cell? _ _ x1)).trans x1
    replace r0 := (hb2.cell (World.block_lt_of_cell? _ _ r0)).trans r0
    replace r1 := (hb2.cell (World.block_lt_of_cell? _ _ r1)).trans r1
    replace hB := Nat.le_trans hB hb2.size
    replace hW := below_step hW hb2
    clear hb2
    rw [qv]
    go_wp2_with fail
    have q1 : (w2.setCell ⟨w.heap.size + 1, 0, none⟩ (.slice none 0 0)).cell? ⟨w.heap.size + 1, 1, none⟩ = some (.slice none 0 0) := (World.cell?_setCell_other _ _ _ _ (by simp)).trans r1
    have z0 : ((w2.setCell ⟨w.heap.size + 1, 0, none⟩ (.slice none 0 0)).setCell ⟨w.heap.size + 1, 1, none⟩ (.slice none 0 0)).cell? ⟨w.heap.size + 1, 0, none⟩ = some (.slice none 0 0) := (World.cell?_setCell_other _ _ _ _ (by simp)).trans (World.cell?_setCell_same _ _ _ r0)
    have z1 : ((w2.setCell ⟨w.heap.size + 1, 0, none⟩ (.slice none 0 0)).setCell ⟨w.heap.size + 1, 1, none⟩ (.slice none 0 0)).cell? ⟨w.heap.size + 1, 1, none⟩ = some (.slice none 0 0) := World.cell?_setCell_same _ _ _ q1
    exact bodyPost_ret (v := .tuple #[.agg #[(.slice none 0 0), (.slice none 0 0)], .int .i64 1]) (by simp [results, Try.results18, go_sem, z0, z1]) rfl (by rw [HS.out, HA.out, HC.out]; exact ⟨none, 0, none, 0, rfl, Own.none_, Own.none_, (by intro a b ha; cases ha), (hW.setCell (by simp) _).setCell (by simp) _⟩)
  · cases qt : inB b 0 10000
    · have HC : Hid (ssCode ss xs b = 2) := by rw [Hid, ssCode, if_neg (by rw [qv]; decide), if_pos qt]
      have HS := Lib.hid (ssS_no HC.out (by decide))
      have HA := Lib.hid (ssA_no HC.out (by decide))
      have hW : Below w.heap.size w ((w.alloc (.cells #[.slice (some ⟨ga, 0, none⟩) n n, .slice (some ⟨gb, 0, none⟩) m m] 31)).alloc (.cells #[.slice none 0 0, .slice none 0 0] 31)) := (below_alloc w _).alloc (by simp) _
      have x0 : ((w.alloc (.cells #[.slice (some ⟨ga, 0, none⟩) n n, .slice (some ⟨gb, 0, none⟩) m m] 31)).alloc (.cells #[.slice none 0 0, .slice none 0 0] 31)).cell? ⟨w.heap.size, 0, none⟩ = some (.slice (some ⟨ga, 0, none⟩) n n) := by simp [go_sem]
      have x1 : ((w.alloc (.cells #[.slice (some ⟨ga, 0, none⟩) n n, .slice (some ⟨gb, 0, none⟩) m m] 31)).alloc (.cells #[.slice none 0 0, .slice none 0 0] 31)).cell? ⟨w.heap.size, 1, none⟩ = some (.slice (some ⟨gb, 0, none⟩) m m) := by simp [go_sem]
      have r0 : ((w.alloc (.cells #[.slice (some ⟨ga, 0, none⟩) n n, .slice (some ⟨gb, 0, none⟩) m m] 31)).alloc (.cells #[.slice none 0 0, .slice none 0 0] 31)).cell? ⟨w.heap.size + 1, 0, none⟩ = some (.slice none 0 0) := by simp [go_sem]
      have r1 : ((w.alloc (.cells #[.slice (some ⟨ga, 0, none⟩) n n, .slice (some ⟨gb, 0, none⟩) m m] 31)).alloc (.cells #[.slice none 0 0, .slice none 0 0] 31)).cell? ⟨w.heap.size + 1, 1, none⟩ = some (.slice none 0 0) := by simp [go_sem]
      have y0 : ((w.alloc (.cells #[.slice (some ⟨ga, 0, none⟩) n n, .slice (some ⟨gb, 0, none⟩) m m] 31)).alloc (.cells #[.slice none 0 0, .slice none 0 0] 31)).frozen? ⟨w.heap.size + 1, 0, none⟩ = false := by simp [go_sem]
      have y1 : ((w.alloc (.cells #[.slice (some ⟨ga, 0, none⟩) n n, .slice (some ⟨gb, 0, none⟩) m m] 31)).alloc (.cells #[.slice none 0 0, .slice none 0 0] 31)).frozen? ⟨w.heap.size + 1, 1, none⟩ = false := by simp [go_sem]
      have hB : w.heap.size + 2 ≤ ((w.alloc (.cells #[.slice (some ⟨ga, 0, none⟩) n n, .slice (some ⟨gb, 0, none⟩) m m] 31)).alloc (.cells #[.slice none 0 0, .slice none 0 0] 31)).heap.size := by simp
      go_enter Try.func18, Try.ntmps18
      go_wp2_with fail
      generalize ((w.alloc (.cells #[.slice (some ⟨ga, 0, none⟩) n n, .slice (some ⟨gb, 0, none⟩) m m] 31)).alloc (.cells #[.slice none 0 0, .slice none 0 0] 31)) = W0 at hW x0 x1 r0 r1 y0 y1 hB ⊢
      refine (implValidScript_any _ n n ss _ m m xs _ (h.below hW) (h2.below hW) hn hm hz).mono ?_
      rintro e w2 ⟨rfl, hb2⟩
      replace y0 := (hb2.frozen (World.block_lt_of_cell? _ _ r0)).trans y0
      replace y1 := (hb2.frozen (World.block_lt_of_cell? _ _ r1)).trans y1
      replace x0 := (hb2.cell (World.block_lt_of_cell? _ _ x0)).trans x0
      replace x1 := (hb2.cell (World.block_lt_of_cell? _ _ x1)).trans x1
      replace r0 := (hb2.cell (World.block_lt_of_cell? _ _ r0)).trans r0
      replace r1 := (hb2.cell (World.block_lt_of_cell? _ _ r1)).trans r1
      replace hB := Nat.le_trans hB hb2.size
      replace hW := below_step hW hb2
      clear hb2
      rw [qv]
      go_wp2_with fail
      refine (within_any _ _ _ _).mono ?_
      rintro e w3 ⟨rfl, rfl⟩
      rw [qt]
      go_wp2_with fail
      have q1 : (w2.setCell ⟨w.heap.size + 1, 0, none⟩ (.slice none 0 0)).cell? ⟨w.heap.size + 1, 1, none⟩ = some (.slice none 0 0) := (World.cell?_setCell_other _ _ _ _ (by simp)).trans r1
      have z0 : ((w2.setCell ⟨w.heap.size + 1, 0, none⟩ (.slice none 0 0)).setCell ⟨w.heap.size + 1, 1, none⟩ (.slice none 0 0)).cell? ⟨w.heap.size + 1, 0, none⟩ = some (.slice none 0 0) := (World.cell?_setCell_other _ _ _ _ (by simp)).trans (World.cell?_setCell_same _ _ _ r0)
      have z1 : ((w2.setCell ⟨w.heap.size + 1, 0, none⟩ (.slice none 0 0)).setCell ⟨w.heap.size + 1, 1, none⟩ (.slice none 0 0)).cell? ⟨w.heap.size + 1, 1, none⟩ = some (.slice none 0 0) := World.cell?_setCell_same _ _ _ q1
      exact bodyPost_ret (v := .tuple #[.agg #[(.slice none 0 0), (.slice none 0 0)], .int .i64 2]) (by simp [results, Try.results18, go_sem, z0, z1]) rfl (by rw [HS.out, HA.out, HC.out]; exact ⟨none, 0, none, 0, rfl, Own.none_, Own.none_, (by intro a b ha; cases ha), (hW.setCell (by simp) _).setCell (by simp) _⟩)
    · have HV := Lib.hid (vScr_true qv)
      have HB := Lib.hid (inB_true.1 qt)
      have HCC : Hid (ssCode ss xs b = if vScr ss (xs.map (shA b)) = false then 5 else 0) := by rw [Hid, ssCode, if_neg (by rw [qv]; decide), if_neg (by rw [qt]; decide)]
      have hW : Below w.heap.size w ((w.alloc (.cells #[.slice (some ⟨ga, 0, none⟩) n n, .slice (some ⟨gb, 0, none⟩) m m] 31)).alloc (.cells #[.slice none 0 0, .slice none 0 0] 31)) := (below_alloc w _).alloc (by simp) _
      have x0 : ((w.alloc (.cells #[.slice (some ⟨ga, 0, none⟩) n n, .slice (some ⟨gb, 0, none⟩) m m] 31)).alloc (.cells #[.slice none 0 0, .slice none 0 0] 31)).cell? ⟨w.heap.size, 0, none⟩ = some (.slice (some ⟨ga, 0, none⟩) n n) := by simp [go_sem]
      have x1 : ((w.alloc (.cells #[.slice (some ⟨ga, 0, none⟩) n n, .slice (some ⟨gb, 0, none⟩) m m] 31)).alloc (.cells #[.slice none 0 0, .slice none 0 0] 31)).cell? ⟨w.heap.size, 1, none⟩ = some (.slice (some ⟨gb, 0, none⟩) m m) := by simp [go_sem]
      have r0 : ((w.alloc (.cells #[.slice (some ⟨ga, 0, none⟩) n n, .slice (some ⟨gb, 0, none⟩) m m] 31)).alloc (.cells #[.slice none 0 0, .slice none 0 0] 31)).cell? ⟨w.heap.size + 1, 0, none⟩ = some (.slice none 0 0) := by simp [go_sem]
      have r1 : ((w.alloc (.cells #[.slice (some ⟨ga, 0, none⟩) n n, .slice (some ⟨gb, 0, none⟩) m m] 31)).alloc (.cells #[.slice none 0 0, .slice none 0 0] 31)).cell? ⟨w.heap.size + 1, 1, none⟩ = some (.slice none 0 0) := by simp [go_sem]
      have y0 : ((w.alloc (.cells #[.slice (some ⟨ga, 0, none⟩) n n, .slice (some ⟨gb, 0, none⟩) m m] 31)).alloc (.cells #[.slice none 0 0, .slice none 0 0] 31)).frozen? ⟨w.heap.size + 1, 0, none⟩ = false := by simp [go_sem]
      have y1 : ((w.alloc (.cells #[.slice (some ⟨ga, 0, none⟩) n n, .slice (some ⟨gb, 0, none⟩) m m] 31)).alloc (.cells #[.slice none 0 0, .slice none 0 0] 31)).frozen? ⟨w.heap.size + 1, 1, none⟩ = false := by simp [go_sem]
      have hB : w.heap.size + 2 ≤ ((w.alloc (.cells #[.slice (some ⟨ga, 0, none⟩) n n, .slice (some ⟨gb, 0, none⟩) m m] 31)).alloc (.cells #[.slice none 0 0, .slice none 0 0] 31)).heap.size := by simp
      go_enter Try.func18, Try.ntmps18
      go_wp2_with fail
      generalize ((w.alloc (.cells #[.slice (some ⟨ga, 0, none⟩) n n, .slice (some ⟨gb, 0, none⟩) m m] 31)).alloc (.cells #[.slice none 0 0, .slice none 0 0] 31)) = W0 at hW x0 x1 r0 r1 y0 y1 hB ⊢
      refine (implValidScript_any _ n n ss _ m m xs _ (h.below hW) (h2.below hW) hn hm hz).mono ?_
      rintro e w2 ⟨rfl, hb2⟩
      replace y0 := (hb2.frozen (World.block_lt_of_cell? _ _ r0)).trans y0
      replace y1 := (hb2.frozen (World.block_lt_of_cell? _ _ r1)).trans y1
      replace x0 := (hb2.cell (World.block_lt_of_cell? _ _ x0)).trans x0
      replace x1 := (hb2.cell (World.block_lt_of_cell? _ _ x1)).trans x1
      replace r0 := (hb2.cell (World.block_lt_of_cell? _ _ r0)).trans r0
      replace r1 := (hb2.cell (World.block_lt_of_cell? _ _ r1)).trans r1
      replace hB := Nat.le_trans hB hb2.size
      replace hW := below_step hW hb2
      clear hb2
      rw [qv]
      go_wp2_with fail
      refine (within_any _ _ _ _).mono ?_
      rintro e w3 ⟨rfl, rfl⟩
      rw [qt]
      clear qv qt
      have x0a := cell_al x0
      have x1a := cell_al x1
      have hs1 : Sl w2.drew 1 eS (some ⟨ga, 0, none⟩) n ss := (h.below hW).drew
      have hs2 : Sl w2.drew 4 eAct (some ⟨gb, 0, none⟩) m xs := (h2.below hW).drew
      go_upto_region 5 with fail
      go_cut [6] (fun s6 wx => ∃ sb : Nat, s6 = .pointer (some ⟨sb, 0, none⟩) ∧ BX wx (w.heap.size + 2) sb ss xs ∧ Below (w.heap.size + 2) w2 wx)
      case first =>
        go_region_with (first
          | (go_at_call 35; refine (CloneStr_any _ n n ss _ (by first | exact hs1 | exact (hs1.alloc _) | exact (hs1.below hbB) | exact ((hs1.below hbB).alloc _) | exact (hs1.alloc _).below hbB) hn).mono ?_; rintro r wa ⟨A1, n1, c1, rfl, own1, hbA⟩; obtain rfl : n1 = ss.length := (own1.sl eS_len).1.symm; have p0 : World.cell? _ ⟨w.heap.size, 0, none⟩ = some (.slice (some ⟨ga, 0, none⟩) n n) := (by first | exact carry_cell hbA x0 | exact carry_cell hbA (x0a _) | exact carry_cell hbA q0 | exact carry_cell hbA (cell_al q0 _)); have p1 : World.cell? _ ⟨w.heap.size, 1, none⟩ = some (.slice (some ⟨gb, 0, none⟩) m m) := (by first | exact carry_cell hbA x1 | exact carry_cell hbA (x1a _) | exact carry_cell hbA q1 | exact carry_cell hbA (cell_al q1 _)); have p0a := cell_al p0; have p1a := cell_al p1; (first | (have z0 := carry_cell hbA (bx_c0 _ _ _ _); have z1 := carry_cell hbA (bx_c1 _ _ _ _); have y0 := carry_frozen hbA (bx_c0 _ _ _ _) (bx_f0 _ _ _ _); have y1 := carry_frozen hbA (bx_c1 _ _ _ _) (bx_f1 _ _ _ _)) | (have y0 := carry_frozen hbA z0 y0; have y1 := carry_frozen hbA z1 y1; have z0 := carry_cell hbA z0; have z1 := carry_cell hbA z1) | skip); (first | have kA := kk0 hB hbA | have kA := kk1 hB hbA | have kA := kk2 hB kB hbA | have kA := kk3 hB kB hbA); have uA := own1.mono (base' := w.heap.size + 2) (by first | exact hB | exact bb1 (w2 := w2.drew) hB | exact Nat.le_trans hB kB.size | exact bb1 (Nat.le_trans hB kB.size)); (first | (have J : JJ w2 wa (w.heap.size + 2) A1 c1 ss B1 d1 xs := ⟨uA, uB.below hbA, (fun a b ha hb => (nn_ own2 own1 (Nat.le_refl _) b a hb ha).symm), kA⟩) | (have J : JJ w2 wa (w.heap.size + 2) A1 c1 ss B1 d1 xs := ⟨uA, (uB.alloc _).below hbA, (fun a b ha hb => (nn_ own2 own1 (below_alloc _ _).size b a hb ha).symm), kA⟩) | skip))
          | (go_at_call 36; refine (CloneAct_any _ m m xs _ (by first | exact hs2 | exact (hs2.alloc _) | exact (hs2.below hbA) | exact ((hs2.below hbA).alloc _) | exact (hs2.alloc _).below hbA) hm).mono ?_; rintro r wb ⟨B1, m1, d1, rfl, own2, hbB⟩; obtain rfl : m1 = xs.length := (own2.sl eAct_len).1.symm; have q0 : World.cell? _ ⟨w.heap.size, 0, none⟩ = some (.slice (some ⟨ga, 0, none⟩) n n) := (by first | exact carry_cell hbB x0 | exact carry_cell hbB (x0a _) | exact carry_cell hbB p0 | exact carry_cell hbB (cell_al p0 _)); have q1 : World.cell? _ ⟨w.heap.size, 1, none⟩ = some (.slice (some ⟨gb, 0, none⟩) m m) := (by first | exact carry_cell hbB x1 | exact carry_cell hbB (x1a _) | exact carry_cell hbB p1 | exact carry_cell hbB (cell_al p1 _)); have q0a := cell_al q0; have q1a := cell_al q1; (first | (have z0 := carry_cell hbB (bx_c0 _ _ _ _); have z1 := carry_cell hbB (bx_c1 _ _ _ _); have y0 := carry_frozen hbB (bx_c0 _ _ _ _) (bx_f0 _ _ _ _); have y1 := carry_frozen hbB (bx_c1 _ _ _ _) (bx_f1 _ _ _ _)) | (have y0 := carry_frozen hbB z0 y0; have y1 := carry_frozen hbB z1 y1; have z0 := carry_cell hbB z0; have z1 := carry_cell hbB z1) | skip); (first | have kB := kk0 hB hbB | have kB := kk1 hB hbB | have kB := kk2 hB kA hbB | have kB := kk3 hB kA hbB); have uB := own2.mono (base' := w.heap.size + 2) (by first | exact hB | exact bb1 (w2 := w2.drew) hB | exact Nat.le_trans hB kA.size | exact bb1 (Nat.le_trans hB kA.size)); (first | (have J : JJ w2 wb (w.heap.size + 2) A1 c1 ss B1 d1 xs := ⟨uA.below hbB, uB, (nn_ own1 own2 (Nat.le_refl _)), kB⟩) | (have J : JJ w2 wb (w.heap.size + 2) A1 c1 ss B1 d1 xs := ⟨(uA.alloc _).below hbB, uB, (nn_ own1 own2 (below_alloc _ _).size), kB⟩) | skip)))
        all_goals (
          go_wp2_with fail
          go_meet
          first
            | exact ⟨_, rfl, J.mk1 hB _⟩
            | exact ⟨_, rfl, J.mk2 hB z0 z1 y0 y1 (ng_ own1 (lt1 _ _)) (ng_ own2 (Nat.lt_of_lt_of_le (lt1 _ _) hbA.size))⟩
            | exact ⟨_, rfl, J.mk2 hB z0 z1 y0 y1 (ng_ own1 (Nat.lt_of_lt_of_le (lt1 _ _) hbB.size)) (ng_ own2 (lt1 _ _))⟩
            | exact ⟨_, rfl, J.mk2 (Nat.le_trans hB kA.size) z0 z1 y0 y1 (nl_ own1 (Nat.le_refl _)) (ng_ own2 (lt1 _ _))⟩
            | exact ⟨_, rfl, J.mk2 (Nat.le_trans hB kB.size) z0 z1 y0 y1 (ng_ own1 (lt1 _ _)) (nl_ own2 (Nat.le_refl _))⟩)
      case rest =>
        obtain ⟨sb, rfl, hBX, hbt⟩ := hcut
        clear hs1 hs2 x0a x1a
        have hl0 : w.heap.size < w.heap.size + 2 := by omega
        have hl1 : w.heap.size + 1 < w.heap.size + 2 := by omega
        replace y0 := (hbt.frozen (p := ⟨w.heap.size + 1, 0, none⟩) hl1).trans y0
        replace y1 := (hbt.frozen (p := ⟨w.heap.size + 1, 1, none⟩) hl1).trans y1
        replace x0 := (hbt.cell (p := ⟨w.heap.size, 0, none⟩) hl0).trans x0
        replace x1 := (hbt.cell (p := ⟨w.heap.size, 1, none⟩) hl0).trans x1
        replace r0 := (hbt.cell (p := ⟨w.heap.size + 1, 0, none⟩) hl1).trans r0
        replace r1 := (hbt.cell (p := ⟨w.heap.size + 1, 1, none⟩) hl1).trans r1
        replace hB := Nat.le_trans hB hbt.size
        replace hW := hW.trans (hbt.mono (Nat.le_add_right _ 2))
        clear hbt
        have HBX := Lib.hid hBX
        obtain ⟨A0, e0, B0, d0, HX0⟩ := hBX
        have c10 := HX0.c1
        rw [h2.1] at c10
        clear HX0
        go_wp2_with fail
        clear c10
        generalize wc = W0 at x0 x1 r0 r1 y0 y1 hB hW HBX ⊢
        go_loopw [28] (fun i wr => ∃ k : Nat, k ≤ m ∧ i = .int .i64 k ∧ BX wr (w.heap.size + 2) sb ss (mixA b xs k) ∧ Below (w.heap.size + 2) W0 wr) (fun i _ => m - (intOf i).toNat)
        case atStart => exact ⟨0, by omega, rfl, by rw [mixA_zero]; exact HBX.out, Below.refl _ _⟩
        case round =>
          obtain ⟨k, hk, rfl, HX, hb⟩ := hrel
          have hwr := hW.trans (hb.mono (Nat.le_add_right _ 2))
          by_cases hlt : k < m
          · obtain ⟨x, hx⟩ : ∃ x, xs[k]? = some x := ⟨_, List.getElem?_eq_getElem (by rw [h2.1]; exact hlt)⟩
            have ht := okAc_tick HV.out.2 hx
            have hbb := HB.out
            have r1w : IntKind.i64.wrap (x.1 + b) = x.1 + b := wr64 (by omega)
            have hg := mixA_get (b := b) hx
            have HS := Lib.hid (mixA_step (b := b) hx)
            clear hx
            obtain ⟨ys, HYS⟩ : ∃ ys, Hid (ys = mixA b xs k) := ⟨_, rfl⟩
            have hlt2 : k < ys.length := by rw [HYS.out, mixA_len, h2.1]; exact hlt
            have hyl : ys.length ≤ 1048577 := by rw [HYS.out, mixA_len, h2.1]; exact hm
            rw [← HYS.out] at HX hg
            obtain ⟨A, c, B, d, HX⟩ := HX
            obtain ⟨g, rfl, hgl, hgb⟩ := HX.some2 (by omega)
            have d0 : wr.cell? ⟨g, k * 4, none⟩ = some (.int .i64 x.1) := by have := ((HX.o2.sl eAct_len).getAct hg).1; simpa using this
            have f0 := HX.o2.free (k * 4)
            have c1 := HX.c1
            have HG := Lib.hid hg
            clear hg
            go_wp2_with fail
            go_roundw
            case rel => exact ⟨k + 1, by omega, by go_num, by rw [← HS.out, ← HYS.out]; exact ⟨_, _, _, _, HX.set0 k x b HG.out⟩, hb.setCell hgb _⟩
            case measure => simp [intOf]; omega
          · have : k = m := by omega
            subst this
            have HTK : mixA b xs k = xs.map (shA b) := by rw [← h2.1, mixA_all]
            rw [HTK] at HX
            clear HTK HBX
            obtain ⟨ys, HYS⟩ : ∃ ys, Hid (ys = xs.map (shA b)) := ⟨_, rfl⟩
            have hyl : ys.length ≤ 1048577 := by rw [HYS.out, List.length_map, h2.1]; exact hm
            have hns : ss.length ≤ 1048577 := by rw [h.1]; exact hn
            rw [← HYS.out] at HX HCC
            obtain ⟨A, c, B, d, HX⟩ := HX
            have c0 := HX.c0
            have c1 := HX.c1
            have u0 := (hb.cell (p := ⟨w.heap.size + 1, 0, none⟩) hl1).trans r0
            have u1 := (hb.cell (p := ⟨w.heap.size + 1, 1, none⟩) hl1).trans r1
            have f0 := (hb.frozen (p := ⟨w.heap.size + 1, 0, none⟩) hl1).trans y0
            have f1 := (hb.frozen (p := ⟨w.heap.size + 1, 1, none⟩) hl1).trans y1
            have HBX := Lib.hid (show BX wr (w.heap.size + 2) sb ss ys from ⟨A, c, B, d, HX⟩)
            cases qw : vScr ss ys
            · have HC : Hid (ssCode ss xs b = 5) := by rw [Hid, HCC.out, if_pos qw]
              have HS := Lib.hid (ssS_no HC.out (by decide))
              have HA := Lib.hid (ssA_no HC.out (by decide))
              go_wp2_with fail
              refine (implValidScript_any A ss.length c ss B ys.length d ys _ (HX.o1.sl eS_len) (HX.o2.sl eAct_len) hns hyl hz).mono ?_
              rintro e w5 ⟨rfl, hb5⟩
              rw [qw]
              have hW := below_step hwr hb5
              have r0 := (hb5.cell (World.block_lt_of_cell? _ _ u0)).trans u0
              have r1 := (hb5.cell (World.block_lt_of_cell? _ _ u1)).trans u1
              have g0 := (hb5.frozen (World.block_lt_of_cell? _ _ u0)).trans f0
              have g1 := (hb5.frozen (World.block_lt_of_cell? _ _ u1)).trans f1
              clear u0 u1 f0 f1 c0 c1
              go_wp2_with fail
              have q1 : (w5.setCell ⟨w.heap.size + 1, 0, none⟩ (.slice none 0 0)).cell? ⟨w.heap.size + 1, 1, none⟩ = some (.slice none 0 0) := (World.cell?_setCell_other _ _ _ _ (by simp)).trans r1
              have z0 : ((w5.setCell ⟨w.heap.size + 1, 0, none⟩ (.slice none 0 0)).setCell ⟨w.heap.size + 1, 1, none⟩ (.slice none 0 0)).cell? ⟨w.heap.size + 1, 0, none⟩ = some (.slice none 0 0) := (World.cell?_setCell_other _ _ _ _ (by simp)).trans (World.cell?_setCell_same _ _ _ r0)
              have z1 : ((w5.setCell ⟨w.heap.size + 1, 0, none⟩ (.slice none 0 0)).setCell ⟨w.heap.size + 1, 1, none⟩ (.slice none 0 0)).cell? ⟨w.heap.size + 1, 1, none⟩ = some (.slice none 0 0) := World.cell?_setCell_same _ _ _ q1
              exact bodyPost_ret (v := .tuple #[.agg #[(.slice none 0 0), (.slice none 0 0)], .int .i64 5]) (by simp [results, Try.results18, go_sem, z0, z1]) rfl (by rw [HS.out, HA.out, HC.out]; exact ⟨none, 0, none, 0, rfl, Own.none_, Own.none_, (by intro a b ha; cases ha), (hW.setCell (by simp) _).setCell (by simp) _⟩)
            · have HC : Hid (ssCode ss xs b = 0) := by rw [Hid, HCC.out, if_neg (by rw [qw]; decide)]
              have HS := Lib.hid (ssS_yes HC.out)
              have HA := Lib.hid (ssA_yes HC.out)
              go_wp2_with fail
              refine (implValidScript_any A ss.length c ss B ys.length d ys _ (HX.o1.sl eS_len) (HX.o2.sl eAct_len) hns hyl hz).mono ?_
              rintro e w5 ⟨rfl, hb5⟩
              rw [qw]
              have hW := below_step hwr hb5
              have r0 := (hb5.cell (World.block_lt_of_cell? _ _ u0)).trans u0
              have r1 := (hb5.cell (World.block_lt_of_cell? _ _ u1)).trans u1
              have g0 := (hb5.frozen (World.block_lt_of_cell? _ _ u0)).trans f0
              have g1 := (hb5.frozen (World.block_lt_of_cell? _ _ u1)).trans f1
              have c0 := (HX.below hb5).c0
              have c1 := (HX.below hb5).c1
              clear u0 u1 f0 f1
              go_wp2_with fail
              have H5 := HX.below hb5
              have ol1 := H5.o1.lt
              have ol2 := H5.o2.lt
              have q1 : (w5.setCell ⟨w.heap.size + 1, 0, none⟩ (.slice A ss.length c)).cell? ⟨w.heap.size + 1, 1, none⟩ = some (.slice none 0 0) := (World.cell?_setCell_other _ _ _ _ (by simp)).trans r1
              have z0 : ((w5.setCell ⟨w.heap.size + 1, 0, none⟩ (.slice A ss.length c)).setCell ⟨w.heap.size + 1, 1, none⟩ (.slice B ys.length d)).cell? ⟨w.heap.size + 1, 0, none⟩ = some (.slice A ss.length c) := (World.cell?_setCell_other _ _ _ _ (by simp)).trans (World.cell?_setCell_same _ _ _ r0)
              have z1 : ((w5.setCell ⟨w.heap.size + 1, 0, none⟩ (.slice A ss.length c)).setCell ⟨w.heap.size + 1, 1, none⟩ (.slice B ys.length d)).cell? ⟨w.heap.size + 1, 1, none⟩ = some (.slice B ys.length d) := World.cell?_setCell_same _ _ _ q1
              exact bodyPost_ret (v := .tuple #[.agg #[(.slice A ss.length c), (.slice B ys.length d)], .int .i64 0]) (by simp [results, Try.results18, go_sem, z0, z1]) rfl (by
                rw [HS.out, HA.out, HC.out, ← HYS.out]
                exact ⟨A, c, B, d, rfl, Bx.own_far (Bx.own_far (H5.o1.mono (Nat.le_add_right _ 2)) ⟨w.heap.size + 1, 0, none⟩ (fun a ha => by have := (ol1 a.block (by rw [ha]; rfl)).1; show a.block ≠ w.heap.size + 1; omega) _) ⟨w.heap.size + 1, 1, none⟩ (fun a ha => by have := (ol1 a.block (by rw [ha]; rfl)).1; show a.block ≠ w.heap.size + 1; omega) _, Bx.own_far (Bx.own_far (H5.o2.mono (Nat.le_add_right _ 2)) ⟨w.heap.size + 1, 0, none⟩ (fun a ha => by have := (ol2 a.block (by rw [ha]; rfl)).1; show a.block ≠ w.heap.size + 1; omega) _) ⟨w.heap.size + 1, 1, none⟩ (fun a ha => by have := (ol2 a.block (by rw [ha]; rfl)).1; show a.block ≠ w.heap.size + 1; omega) _, H5.n3, (hW.setCell (by simp) _).setCell (by simp) _⟩)

end Go.Proofs.Ytccddejbbdciiaa
