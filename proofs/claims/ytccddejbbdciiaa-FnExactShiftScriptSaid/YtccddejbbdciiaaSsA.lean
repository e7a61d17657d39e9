/-
  Scripts: a later script: the reference.
-/
import Derived.Test.YtccddejbbdciiaaSs
import Derived.Deep.RegionHeld3
import Derived.Lib.SliceRun
import Derived.Deep.DeepCutAuto
namespace Go.Proofs.Ytccddejbbdciiaa
open Go.RowKit Go.Deep Go.Joins

set_option maxHeartbeats 3200000 in
theorem specShiftScript_any (ga n : Nat) (ss : List ByteArray) (gb m : Nat) (xs : List AX) (b : Int) (w : World) (h : Sl w 1 eS (some ⟨ga, 0, none⟩) n ss) (h2 : Sl w 4 eAct (some ⟨gb, 0, none⟩) m xs) (hn : n ≤ 1048577) (hm : m ≤ 1048577) (hz : ∀ s ∈ ss, s.size ≤ maxLen) :
    Calls Try.prog 17 #[.agg #[.slice (some ⟨ga, 0, none⟩) n n, .slice (some ⟨gb, 0, none⟩) m m], .int .i64 b] w fun e w' => RetScr (ssS ss xs b) (ssA ss xs b) (ssCode ss xs b) w e w' := by
  obtain ⟨i0, hi0, hz0, hz1, hz2⟩ := info_parts infoStr
  obtain ⟨j0, hj0, hk0, hk1, hk2⟩ := info_parts infoAct
  cases qv : vScr ss xs
  · have HC : Hid (ssCode ss xs b = 1) := by rw [Hid, ssCode, if_pos qv]
    have HS := Lib.hid (ssS_no HC.out (by decide))
    have HA := Lib.hid (ssA_no HC.out (by decide))
    have hW : Below w.heap.size w ((w.alloc (.cells #[.slice (some ⟨ga, 0, none⟩) n n, .slice (some ⟨gb, 0, none⟩) m m] 31)).alloc (.cells #[.slice none 0 0, .slice none 0 0] 31)) := (below_alloc w _).alloc (by simp) _
    have x0 : ((w.alloc (.cells #[.slice (some ⟨ga, 0, none⟩) n n, .slice (some ⟨gb, 0, none⟩) m m] 31)).alloc (.cells #[.slice none 0 0, .slice none 0 0] 31)).cell? ⟨w.heap.size, 0, none⟩ = some (.slice (some ⟨ga, 0, none⟩) n n) := by simp [go_sem]
    have x1 : ((w.alloc (.cells #[.slice (some ⟨ga, 0, none⟩) n n, .slice (some ⟨gb, 0, none⟩) m m] 31)).alloc (.cells #[.slice none 0 0, .slice none 0 0] 31)).cell? ⟨w.heap.size, 1, none⟩ = some (.slice (some ⟨gb, 0, none⟩) m m) := by simp [go_sem]
    have r0 : ((w.alloc (.cells #[.slice (some ⟨ga, 0, none⟩) n n, .slice (some ⟨gb, 0, none⟩) m m] 31)).alloc (.cells #[.slice none 0 0, .slice none 0 0] 31)).cell? ⟨w.heap.size + 1, 0, none⟩ = some (.slice none 0 0) := by simp [go_sem]
    have r1 : ((w.alloc (.cells #[.slice (some ⟨ga, 0, none⟩) n n, .slice (some ⟨gb, 0, none⟩) m m] 31)).alloc (.cells #[.slice none 0 0, .slice none 0 0] 31)).cell? ⟨w.heap.size + 1, 1, none⟩ = some (.slice none 0 0) := by simp [go_sem]
    have y0 : ((w.alloc (.cells #[.slice (some ⟨ga, 0, none⟩) n n, .slice (some ⟨gb, 0, none⟩) m m] 31)).alloc (.cells #[.slice none 0 0, .slice none 0 0] 31)).frozen? ⟨w.heap.size + 1, 0, none⟩ = false := by simp [go_sem]
    have y1 : ((w.alloc (.cells #[.slice (some ⟨ga, 0, none⟩) n n, .slice (some ⟨gb, 0, none⟩) m m] 31)).alloc (.cells #[.slice none 0 0, .slice none 0 0] 31)).frozen? ⟨w.heap.size + 1, 1, none⟩ = false := by simp [go_sem]
    have hB : w.heap.size + 2 ≤ ((w.alloc (.cells #[.slice (some ⟨ga, 0, none⟩) n n, .slice (some ⟨gb, 0, none⟩) m m] 31)).alloc (.cells #[.slice none 0 0, .slice none 0 0] 31)).heap.size := by simp
    go_enter Try.func17, Try.ntmps17
    go_wp2_with fail
    generalize ((w.alloc (.cells #[.slice (some ⟨ga, 0, none⟩) n n, .slice (some ⟨gb, 0, none⟩) m m] 31)).alloc (.cells #[.slice none 0 0, .slice none 0 0] 31)) = W0 at hW x0 x1 r0 r1 y0 y1 hB ⊢
    refine (l18Ok_any w.heap.size _ n n ss _ m m xs _ x0 x1 (h.below hW) (h2.below hW) hn hm hz).mono ?_
    rintro e w2 ⟨rfl, hb2⟩
    replace y0 := (hb2.frozen (World.block_lt_of_cell? _ _ r0)).trans y0
    replace y1 := (hb2.frozen (World.block_lt_of_cell? _ _ r1)).trans y1
    replace x0 := (hb2.cell (World.block_lt_of_cell? _ _ x0)).trans x0
    replace x1 := (hb2.cell (World.block_lt_of_cell? _ _ x1)).trans x1
    replace r0 := (hb2.cell (World.block_lt_of_cell? _ _ r0)).trans r0
    replace r1 := (hb2.cell (World.block_lt_of_cell? _ _ r1)).trans r1
    replace hB := Nat.le_trans hB hb2.size
    replace hW := below_step hW hb2
    clear hb2
    rw [qv]
    go_wp2_with fail
    have q1 : (w2.setCell ⟨w.heap.size + 1, 0, none⟩ (.slice none 0 0)).cell? ⟨w.heap.size + 1, 1, none⟩ = some (.slice none 0 0) := (World.cell?_setCell_other _ _ _ _ (by simp)).trans r1
    have z0 : ((w2.setCell ⟨w.heap.size + 1, 0, none⟩ (.slice none 0 0)).setCell ⟨w.heap.size + 1, 1, none⟩ (.slice none 0 0)).cell? ⟨w.heap.size + 1, 0, none⟩ = some (.slice none 0 0) := (World.cell?_setCell_other _ _ _ _ (by simp)).trans (World.cell?_setCell_same _ _ _ r0)
    have z1 : ((w2.setCell ⟨w.heap.size + 1, 0, none⟩ (.slice none 0 0)).setCell ⟨w.heap.size + 1, 1, none⟩ (.slice none 0 0)).cell? ⟨w.heap.size + 1, 1, none⟩ = some (.slice none 0 0) := World.cell?_setCell_same _ _ _ q1
    exact bodyPost_ret (v := .tuple #[.agg #[(.slice none 0 0), (.slice none 0 0)], .int .i64 1]) (by simp [results, Try.results17, go_sem, z0, z1]) rfl (by rw [HS.out, HA.out, HC.out]; exact ⟨none, 0, none, 0, rfl, Own.none_, Own.none_, (by intro a b ha; cases ha), (hW.setCell (by simp) _).setCell (by simp) _⟩)
  · cases qt : inB b 0 10000
    · have HC : Hid (ssCode ss xs b = 2) := by rw [Hid, ssCode, if_neg (by rw [qv]; decide), if_pos qt]
      have HS := Lib.hid (ssS_no HC.out (by decide))
      have HA := Lib.hid (ssA_no HC.out (by decide))
      have hW : Below w.heap.size w ((w.alloc (.cells #[.slice (some ⟨ga, 0, none⟩) n n, .slice (some ⟨gb, 0, none⟩) m m] 31)).alloc (.cells #[.slice none 0 0, .slice none 0 0] 31)) := (below_alloc w _).alloc (by simp) _
      have x0 : ((w.alloc (.cells #[.slice (some ⟨ga, 0, none⟩) n n, .slice (some ⟨gb, 0, none⟩) m m] 31)).alloc (.cells #[.slice none 0 0, .slice none 0 0] 31)).cell? ⟨w.heap.size, 0, none⟩ = some (.slice (some ⟨ga, 0, none⟩) n n) := by simp [go_sem]
      have x1 : ((w.alloc (.cells #[.slice (some ⟨ga, 0, none⟩) n n, .slice (some ⟨gb, 0, none⟩) m m] 31)).alloc (.cells #[.slice none 0 0, .slice none 0 0] 31)).cell? ⟨w.heap.size, 1, none⟩ = some (.slice (some ⟨gb, 0, none⟩) m m) := by simp [go_sem]
      have r0 : ((w.alloc (.cells #[.slice (some ⟨ga, 0, none⟩) n n, .slice (some ⟨gb, 0, none⟩) m m] 31)).alloc (.cells #[.slice none 0 0, .slice none 0 0] 31)).cell? ⟨w.heap.size + 1, 0, none⟩ = some (.slice none 0 0) := by simp [go_sem]
      have r1 : ((w.alloc (.cells #[.slice (some ⟨ga, 0, none⟩) n n, .slice (some ⟨gb, 0, none⟩) m m] 31)).alloc (.cells #[.slice none 0 0, .slice none 0 0] 31)).cell? ⟨w.heap.size + 1, 1, none⟩ = some (.slice none 0 0) := by simp [go_sem]
      have y0 : ((w.alloc (.cells #[.slice (some ⟨ga, 0, none⟩) n n, .slice (some ⟨gb, 0, none⟩) m m] 31)).alloc (.cells #[.slice none 0 0, .slice none 0 0] 31)).frozen? ⟨w.heap.size + 1, 0, none⟩ = false := by simp [go_sem]
      have y1 : ((w.alloc (.cells #[.slice (some ⟨ga, 0, none⟩) n n, .slice (some ⟨gb, 0, none⟩) m m] 31)).alloc (.cells #[.slice none 0 0, .slice none 0 0] 31)).frozen? ⟨w.heap.size + 1, 1, none⟩ = false := by simp [go_sem]
      have hB : w.heap.size + 2 ≤ ((w.alloc (.cells #[.slice (some ⟨ga, 0, none⟩) n n, .slice (some ⟨gb, 0, none⟩) m m] 31)).alloc (.cells #[.slice none 0 0, .slice none 0 0] 31)).heap.size := by simp
      go_enter Try.func17, Try.ntmps17
      go_wp2_with fail
      generalize ((w.alloc (.cells #[.slice (some ⟨ga, 0, none⟩) n n, .slice (some ⟨gb, 0, none⟩) m m] 31)).alloc (.cells #[.slice none 0 0, .slice none 0 0] 31)) = W0 at hW x0 x1 r0 r1 y0 y1 hB ⊢
      refine (l18Ok_any w.heap.size _ n n ss _ m m xs _ x0 x1 (h.below hW) (h2.below hW) hn hm hz).mono ?_
      rintro e w2 ⟨rfl, hb2⟩
      replace y0 := (hb2.frozen (World.block_lt_of_cell? _ _ r0)).trans y0
      replace y1 := (hb2.frozen (World.block_lt_of_cell? _ _ r1)).trans y1
      replace x0 := (hb2.cell (World.block_lt_of_cell? _ _ x0)).trans x0
      replace x1 := (hb2.cell (World.block_lt_of_cell? _ _ x1)).trans x1
      replace r0 := (hb2.cell (World.block_lt_of_cell? _ _ r0)).trans r0
      replace r1 := (hb2.cell (World.block_lt_of_cell? _ _ r1)).trans r1
      replace hB := Nat.le_trans hB hb2.size
      replace hW := below_step hW hb2
      clear hb2
      rw [qv]
      go_wp2_with fail
      refine (l00In_any _ _ _ _).mono ?_
      rintro e w3 ⟨rfl, rfl⟩
      rw [qt]
      go_wp2_with fail
      have q1 : (w2.setCell ⟨w.heap.size + 1, 0, none⟩ (.slice none 0 0)).cell? ⟨w.heap.size + 1, 1, none⟩ = some (.slice none 0 0) := (World.cell?_setCell_other _ _ _ _ (by simp)).trans r1
      have z0 : ((w2.setCell ⟨w.heap.size + 1, 0, none⟩ (.slice none 0 0)).setCell ⟨w.heap.size + 1, 1, none⟩ (.slice none 0 0)).cell? ⟨w.heap.size + 1, 0, none⟩ = some (.slice none 0 0) := (World.cell?_setCell_other _ _ _ _ (by simp)).trans (World.cell?_setCell_same _ _ _ r0)
      have z1 : ((w2.setCell ⟨w.heap.size + 1, 0, none⟩ (.slice none 0 0)).setCell ⟨w.heap.size + 1, 1, none⟩ (.slice none 0 0)).cell? ⟨w.heap.size + 1, 1, none⟩ = some (.slice none 0 0) := World.cell?_setCell_same _ _ _ q1
      exact bodyPost_ret (v := .tuple #[.agg #[(.slice none 0 0), (.slice none 0 0)], .int .i64 2]) (by simp [results, Try.results17, go_sem, z0, z1]) rfl (by rw [HS.out, HA.out, HC.out]; exact ⟨none, 0, none, 0, rfl, Own.none_, Own.none_, (by intro a b ha; cases ha), (hW.setCell (by simp) _).setCell (by simp) _⟩)
    · have HV := Lib.hid (vScr_true qv)
      have HB := Lib.hid (inB_true.1 qt)
      have HCC : Hid (ssCode ss xs b = if vScr ss (xs.map (shA b)) = false then 5 else 0) := by rw [Hid, ssCode, if_neg (by rw [qv]; decide), if_neg (by rw [qt]; decide)]
      have hW : Below w.heap.size w ((w.alloc (.cells #[.slice (some ⟨ga, 0, none⟩) n n, .slice (some ⟨gb, 0, none⟩) m m] 31)).alloc (.cells #[.slice none 0 0, .slice none 0 0] 31)) := (below_alloc w _).alloc (by simp) _
      have x0 : ((w.alloc (.cells #[.slice (some ⟨ga, 0, none⟩) n n, .slice (some ⟨gb, 0, none⟩) m m] 31)).alloc (.cells #[.slice none 0 0, .slice none 0 0] 31)).cell? ⟨w.heap.size, 0, none⟩ = some (.slice (some ⟨ga, 0, none⟩) n n) := by simp [go_sem]
      have x1 : ((w.alloc (.cells #[.slice (some ⟨ga, 0, none⟩) n n, .slice (some ⟨gb, 0, none⟩) m m] 31)).alloc (.cells #[.slice none 0 0, .slice none 0 0] 31)).cell? ⟨w.heap.size, 1, none⟩ = some (.slice (some ⟨gb, 0, none⟩) m m) := by simp [go_sem]
      have r0 : ((w.alloc (.cells #[.slice (some ⟨ga, 0, none⟩) n n, .slice (some ⟨gb, 0, none⟩) m m] 31)).alloc (.cells #[.slice none 0 0, .slice none 0 0] 31)).cell? ⟨w.heap.size + 1, 0, none⟩ = some (.slice none 0 0) := by simp [go_sem]
      have r1 : ((w.alloc (.cells #[.slice (some ⟨ga, 0, none⟩) n n, .slice (some ⟨gb, 0, none⟩) m m] 31)).alloc (.cells #[.slice none 0 0, .slice none 0 0] 31)).cell? ⟨w.heap.size + 1, 1, none⟩ = some (.slice none 0 0) := by simp [go_sem]
      have y0 : ((w.alloc (.cells #[.slice (some ⟨ga, 0, none⟩) n n, .slice (some ⟨gb, 0, none⟩) m m] 31)).alloc (.cells #[.slice none 0 0, .slice none 0 0] 31)).frozen? ⟨w.heap.size + 1, 0, none⟩ = false := by simp [go_sem]
      have y1 : ((w.alloc (.cells #[.slice (some ⟨ga, 0, none⟩) n n, .slice (some ⟨gb, 0, none⟩) m m] 31)).alloc (.cells #[.slice none 0 0, .slice none 0 0] 31)).frozen? ⟨w.heap.size + 1, 1, none⟩ = false := by simp [go_sem]
      have hB : w.heap.size + 2 ≤ ((w.alloc (.cells #[.slice (some ⟨ga, 0, none⟩) n n, .slice (some ⟨gb, 0, none⟩) m m] 31)).alloc (.cells #[.slice none 0 0, .slice none 0 0] 31)).heap.size := by simp
      go_enter Try.func17, Try.ntmps17
      go_wp2_with fail
      generalize ((w.alloc (.cells #[.slice (some ⟨ga, 0, none⟩) n n, .slice (some ⟨gb, 0, none⟩) m m] 31)).alloc (.cells #[.slice none 0 0, .slice none 0 0] 31)) = W0 at hW x0 x1 r0 r1 y0 y1 hB ⊢
      refine (l18Ok_any w.heap.size _ n n ss _ m m xs _ x0 x1 (h.below hW) (h2.below hW) hn hm hz).mono ?_
      rintro e w2 ⟨rfl, hb2⟩
      replace y0 := (hb2.frozen (World.block_lt_of_cell? _ _ r0)).trans y0
      replace y1 := (hb2.frozen (World.block_lt_of_cell? _ _ r1)).trans y1
      replace x0 := (hb2.cell (World.block_lt_of_cell? _ _ x0)).trans x0
      replace x1 := (hb2.cell (World.block_lt_of_cell? _ _ x1)).trans x1
      replace r0 := (hb2.cell (World.block_lt_of_cell? _ _ r0)).trans r0
      replace r1 := (hb2.cell (World.block_lt_of_cell? _ _ r1)).trans r1
      replace hB := Nat.le_trans hB hb2.size
      replace hW := below_step hW hb2
      clear hb2
      rw [qv]
      go_wp2_with fail
      refine (l00In_any _ _ _ _).mono ?_
      rintro e w3 ⟨rfl, rfl⟩
      rw [qt]
      clear qv qt
      have hst : Own (w2.alloc (.cells #[] 9)) (w.heap.size + 2) 9 1 eS (.slice (some ⟨w2.heap.size, 0, none⟩) 0 0) ([] : List ByteArray) := Own.lit w2 _ _ [] 0 hB rfl (by simp [maxLen]) eS_len rfl
      have x0a := cell_al x0
      have x1a := cell_al x1
      go_wp2_with (at_builtin; refine wpList_appS rfl (.tmp 16) (.tmp 18) 22 9 rfl (w.heap.size + 2) i0 _ 1 16 Try.underlying22 hi0 hz0 hz1 hz2 rfl (by decide) eS eS_len eS_one _ ([] : List ByteArray) rfl hst (some ⟨ga, 0, none⟩) n n ss rfl (fun h => by cases h) ((h.below hW).alloc _) (by simp; omega) (by simp [maxLen]; omega) (Nat.le_trans (by exact hB) (below_alloc _ _).size) ?_; intro v9 w9 ho9 hb9 hg9 hn9; rw [List.nil_append] at ho9; obtain ⟨A9, c9, rfl⟩ := own_form ho9)
      clear x0a x1a hst
      have hbt : Below (w.heap.size + 2) w2 w9 := (below_al hB _).trans hb9
      clear hb9 hg9 hn9
      have hl0 : w.heap.size < w.heap.size + 2 := by omega
      have hl1 : w.heap.size + 1 < w.heap.size + 2 := by omega
      replace y0 := (hbt.frozen (p := ⟨w.heap.size + 1, 0, none⟩) hl1).trans y0
      replace y1 := (hbt.frozen (p := ⟨w.heap.size + 1, 1, none⟩) hl1).trans y1
      replace x0 := (hbt.cell (p := ⟨w.heap.size, 0, none⟩) hl0).trans x0
      replace x1 := (hbt.cell (p := ⟨w.heap.size, 1, none⟩) hl0).trans x1
      replace r0 := (hbt.cell (p := ⟨w.heap.size + 1, 0, none⟩) hl1).trans r0
      replace r1 := (hbt.cell (p := ⟨w.heap.size + 1, 1, none⟩) hl1).trans r1
      replace hB := Nat.le_trans hB hbt.size
      replace hW := hW.trans (hbt.mono (Nat.le_add_right _ 2))
      skip
      have o9 := ho9.lt
      have hBX : BX ((w9.alloc (.cells #[] 47)).alloc (.cells #[.slice A9 ss.length c9, .slice (some ⟨w9.heap.size, 0, none⟩) 0 0] 31)) (w.heap.size + 2) (w9.heap.size + 1) ss ((xs.take 0).map (shA b)) := ⟨A9, c9, some ⟨w9.heap.size, 0, none⟩, 0, by omega, by simp [go_sem], by simp [go_sem], by simp [go_sem], by simp [go_sem], (ho9.alloc _).alloc _, ((Own.lit (enc := eAct) (k := 4) w9 #[] 47 [] 0 hB rfl (by unfold maxLen; omega) eAct_len rfl).alloc _), (fun a ha => by have := (o9 a.block (by rw [ha]; rfl)).2; omega), (fun a ha => by cases ha; simp), (fun a a2 ha ha2 => by cases ha2; have := (o9 a.block (by rw [ha]; rfl)).2; simp; omega)⟩
      have hbu : Below (w.heap.size + 2) w9 ((w9.alloc (.cells #[] 47)).alloc (.cells #[.slice A9 ss.length c9, .slice (some ⟨w9.heap.size, 0, none⟩) 0 0] 31)) := (below_al hB _).alloc (by simp; omega) _
      replace y0 := (hbu.frozen (p := ⟨w.heap.size + 1, 0, none⟩) hl1).trans y0
      replace y1 := (hbu.frozen (p := ⟨w.heap.size + 1, 1, none⟩) hl1).trans y1
      replace x0 := (hbu.cell (p := ⟨w.heap.size, 0, none⟩) hl0).trans x0
      replace x1 := (hbu.cell (p := ⟨w.heap.size, 1, none⟩) hl0).trans x1
      replace r0 := (hbu.cell (p := ⟨w.heap.size + 1, 0, none⟩) hl1).trans r0
      replace r1 := (hbu.cell (p := ⟨w.heap.size + 1, 1, none⟩) hl1).trans r1
      have HSB : Hid (w.heap.size + 2 ≤ w9.heap.size + 1) := by rw [Hid]; omega
      replace hB := Nat.le_trans hB hbu.size
      replace hW := hW.trans (hbu.mono (Nat.le_add_right _ 2))
      clear ho9 o9 hbu hbt
      generalize w9.heap.size + 1 = sb at hBX HSB ⊢
      generalize ((w9.alloc (.cells #[] 47)).alloc (.cells #[.slice A9 ss.length c9, .slice (some ⟨w9.heap.size, 0, none⟩) 0 0] 31)) = W0 at hBX hW x0 x1 r0 r1 y0 y1 hB ⊢
      go_loopw [7] (fun i wr => ∃ k : Nat, k ≤ m ∧ i = .int .i64 k ∧ BX wr (w.heap.size + 2) sb ss ((xs.take k).map (shA b)) ∧ Below (w.heap.size + 2) W0 wr) (fun i _ => m - (intOf i).toNat)
      case atStart => exact ⟨0, by omega, rfl, hBX, Below.refl _ _⟩
      case round =>
        obtain ⟨k, hk, rfl, HX, hb⟩ := hrel
        have hwr := hW.trans (hb.mono (Nat.le_add_right _ 2))
        have v0 := (hb.cell (p := ⟨w.heap.size, 0, none⟩) hl0).trans x0
        have v1 := (hb.cell (p := ⟨w.heap.size, 1, none⟩) hl0).trans x1
        by_cases hlt : k < m
        · obtain ⟨b2, off2, x, hbo, hx, hm2, d0, d1, d2, d3⟩ := (h2.below hwr).atAct hlt
          cases hbo
          rw [Nat.zero_add] at d0 d1 d2 d3
          have HXX := Lib.hid hx
          have ht := okAc_tick HV.out.2 hx
          have hbb := HB.out
          have r1w : IntKind.i64.wrap (x.1 + b) = x.1 + b := wr64 (by omega)
          clear hx hm2
          obtain ⟨ys, HYS⟩ : ∃ ys, Hid (ys = (xs.take k).map (shA b)) := ⟨_, rfl⟩
          have hyl : ys.length ≤ 1048577 := by rw [HYS.out, List.length_map, List.length_take]; omega
          rw [← HYS.out] at HX
          obtain ⟨A, c, B, d, HX⟩ := HX
          have hb2 : Below wr.heap.size wr (wr.alloc (.cells #[.int .i64 (x.1 + b), .string x.2.1, .string x.2.2.1, .int .i64 x.2.2.2] 47)) := below_alloc wr _
          have HX2 := HX.below hb2
          have s0 : (wr.alloc (.cells #[.int .i64 (x.1 + b), .string x.2.1, .string x.2.2.1, .int .i64 x.2.2.2] 47)).cell? ⟨wr.heap.size, 0, none⟩ = some (.int .i64 (x.1 + b)) := by simp [go_sem]
          have s1 : (wr.alloc (.cells #[.int .i64 (x.1 + b), .string x.2.1, .string x.2.2.1, .int .i64 x.2.2.2] 47)).cell? ⟨wr.heap.size, 1, none⟩ = some (.string x.2.1) := by simp [go_sem]
          have s2 : (wr.alloc (.cells #[.int .i64 (x.1 + b), .string x.2.1, .string x.2.2.1, .int .i64 x.2.2.2] 47)).cell? ⟨wr.heap.size, 2, none⟩ = some (.string x.2.2.1) := by simp [go_sem]
          have s3 : (wr.alloc (.cells #[.int .i64 (x.1 + b), .string x.2.1, .string x.2.2.1, .int .i64 x.2.2.2] 47)).cell? ⟨wr.heap.size, 3, none⟩ = some (.int .i64 x.2.2.2) := by simp [go_sem]
          have HX3 := HX2.below (below_alloc (wr.alloc (.cells #[.int .i64 (x.1 + b), .string x.2.1, .string x.2.2.1, .int .i64 x.2.2.2] 47)) (.cells #[.int .i64 (x.1 + b), .string x.2.1, .string x.2.2.1, .int .i64 x.2.2.2] 47))
          have c1b := HX2.c1
          have c1c := HX3.c1
          go_wp2_with (at_builtin; refine wpList_app1x rfl (.tmp 40) (.tmp 42) 29 47 rfl (w.heap.size + 2) j0 _ 4 48 Try.underlying29 hj0 hk0 hk1 hk2 rfl (by decide) eAct eAct_len eAct_one (.slice B ys.length d) ys rfl HX3.o2 (shA b x) _ _ rfl (newcell _ _ _ _ (by simp)) (by omega) (by unfold maxLen; omega) HX3.base_le ?_; intro v9 w9 ho9 hb9 hg9 hv9; obtain ⟨k0, k1, k2, k3⟩ := HX3.at0 (w' := w9) hg9 HX3.row2; obtain ⟨A9, c9, rfl⟩ := own_form ho9; have el : (ys ++ [shA b x]).length = ys.length + 1 := (by simp); simp only [el] at ho9 hv9)
          go_roundw
          case rel => exact ⟨k + 1, by omega, by go_num, by rw [map_step HXX.out, ← HYS.out]; exact HX3.put1 ho9 hg9 hv9, (((hb.trans (hb2.mono (Nat.le_trans HX.hb (Nat.le_of_lt HX.lt)))).trans (below_al HX2.base_le _)).trans hb9).setCell HX.hb _⟩
          case measure => simp [intOf]; omega
        · have : k = m := by omega
          subst this
          have HTK : (xs.take k).map (shA b) = xs.map (shA b) := by rw [List.take_of_length_le (by rw [h2.1]; exact Nat.le_refl _)]
          rw [HTK] at HX
          clear HTK
          obtain ⟨ys, HYS⟩ : ∃ ys, Hid (ys = xs.map (shA b)) := ⟨_, rfl⟩
          have hyl : ys.length ≤ 1048577 := by rw [HYS.out, List.length_map, h2.1]; exact hm
          have hns : ss.length ≤ 1048577 := by rw [h.1]; exact hn
          rw [← HYS.out] at HX HCC
          obtain ⟨A, c, B, d, HX⟩ := HX
          have c0 := HX.c0
          have c1 := HX.c1
          have u0 := (hb.cell (p := ⟨w.heap.size + 1, 0, none⟩) hl1).trans r0
          have u1 := (hb.cell (p := ⟨w.heap.size + 1, 1, none⟩) hl1).trans r1
          have f0 := (hb.frozen (p := ⟨w.heap.size + 1, 0, none⟩) hl1).trans y0
          have f1 := (hb.frozen (p := ⟨w.heap.size + 1, 1, none⟩) hl1).trans y1
          have HBX := Lib.hid (show BX wr (w.heap.size + 2) sb ss ys from ⟨A, c, B, d, HX⟩)
          cases qw : vScr ss ys
          · have HC : Hid (ssCode ss xs b = 5) := by rw [Hid, HCC.out, if_pos qw]
            have HS := Lib.hid (ssS_no HC.out (by decide))
            have HA := Lib.hid (ssA_no HC.out (by decide))
            go_wp2_with fail
            refine (l18Ok_any sb A ss.length c ss B ys.length d ys _ HX.c0 HX.c1 (HX.o1.sl eS_len) (HX.o2.sl eAct_len) hns hyl hz).mono ?_
            rintro e w5 ⟨rfl, hb5⟩
            rw [qw]
            have hW := below_step hwr hb5
            have r0 := (hb5.cell (World.block_lt_of_cell? _ _ u0)).trans u0
            have r1 := (hb5.cell (World.block_lt_of_cell? _ _ u1)).trans u1
            have g0 := (hb5.frozen (World.block_lt_of_cell? _ _ u0)).trans f0
            have g1 := (hb5.frozen (World.block_lt_of_cell? _ _ u1)).trans f1
            clear u0 u1 f0 f1 c0 c1
            go_wp2_with fail
            have q1 : (w5.setCell ⟨w.heap.size + 1, 0, none⟩ (.slice none 0 0)).cell? ⟨w.heap.size + 1, 1, none⟩ = some (.slice none 0 0) := (World.cell?_setCell_other _ _ _ _ (by simp)).trans r1
            have z0 : ((w5.setCell ⟨w.heap.size + 1, 0, none⟩ (.slice none 0 0)).setCell ⟨w.heap.size + 1, 1, none⟩ (.slice none 0 0)).cell? ⟨w.heap.size + 1, 0, none⟩ = some (.slice none 0 0) := (World.cell?_setCell_other _ _ _ _ (by simp)).trans (World.cell?_setCell_same _ _ _ r0)
            have z1 : ((w5.setCell ⟨w.heap.size + 1, 0, none⟩ (.slice none 0 0)).setCell ⟨w.heap.size + 1, 1, none⟩ (.slice none 0 0)).cell? ⟨w.heap.size + 1, 1, none⟩ = some (.slice none 0 0) := World.cell?_setCell_same _ _ _ q1
            exact bodyPost_ret (v := .tuple #[.agg #[(.slice none 0 0), (.slice none 0 0)], .int .i64 5]) (by simp [results, Try.results17, go_sem, z0, z1]) rfl (by rw [HS.out, HA.out, HC.out]; exact ⟨none, 0, none, 0, rfl, Own.none_, Own.none_, (by intro a b ha; cases ha), (hW.setCell (by simp) _).setCell (by simp) _⟩)
          · have HC : Hid (ssCode ss xs b = 0) := by rw [Hid, HCC.out, if_neg (by rw [qw]; decide)]
            have HS := Lib.hid (ssS_yes HC.out)
            have HA := Lib.hid (ssA_yes HC.out)
            go_wp2_with fail
            refine (l18Ok_any sb A ss.length c ss B ys.length d ys _ HX.c0 HX.c1 (HX.o1.sl eS_len) (HX.o2.sl eAct_len) hns hyl hz).mono ?_
            rintro e w5 ⟨rfl, hb5⟩
            rw [qw]
            have hW := below_step hwr hb5
            have r0 := (hb5.cell (World.block_lt_of_cell? _ _ u0)).trans u0
            have r1 := (hb5.cell (World.block_lt_of_cell? _ _ u1)).trans u1
            have g0 := (hb5.frozen (World.block_lt_of_cell? _ _ u0)).trans f0
            have g1 := (hb5.frozen (World.block_lt_of_cell? _ _ u1)).trans f1
            have c0 := (HX.below hb5).c0
            have c1 := (HX.below hb5).c1
            clear u0 u1 f0 f1
            go_wp2_with fail
            have H5 := HX.below hb5
            have ol1 := H5.o1.lt
            have ol2 := H5.o2.lt
            have q1 : (w5.setCell ⟨w.heap.size + 1, 0, none⟩ (.slice A ss.length c)).cell? ⟨w.heap.size + 1, 1, none⟩ = some (.slice none 0 0) := (World.cell?_setCell_other _ _ _ _ (by simp)).trans r1
            have z0 : ((w5.setCell ⟨w.heap.size + 1, 0, none⟩ (.slice A ss.length c)).setCell ⟨w.heap.size + 1, 1, none⟩ (.slice B ys.length d)).cell? ⟨w.heap.size + 1, 0, none⟩ = some (.slice A ss.length c) := (World.cell?_setCell_other _ _ _ _ (by simp)).trans (World.cell?_setCell_same _ _ _ r0)
            have z1 : ((w5.setCell ⟨w.heap.size + 1, 0, none⟩ (.slice A ss.length c)).setCell ⟨w.heap.size + 1, 1, none⟩ (.slice B ys.length d)).cell? ⟨w.heap.size + 1, 1, none⟩ = some (.slice B ys.length d) := World.cell?_setCell_same _ _ _ q1
            exact bodyPost_ret (v := .tuple #[.agg #[(.slice A ss.length c), (.slice B ys.length d)], .int .i64 0]) (by simp [results, Try.results17, go_sem, z0, z1]) rfl (by
              rw [HS.out, HA.out, HC.out, ← HYS.out]
              exact ⟨A, c, B, d, rfl, Bx.own_far (Bx.own_far (H5.o1.mono (Nat.le_add_right _ 2)) ⟨w.heap.size + 1, 0, none⟩ (fun a ha => by have := (ol1 a.block (by rw [ha]; rfl)).1; show a.block ≠ w.heap.size + 1; omega) _) ⟨w.heap.size + 1, 1, none⟩ (fun a ha => by have := (ol1 a.block (by rw [ha]; rfl)).1; show a.block ≠ w.heap.size + 1; omega) _, Bx.own_far (Bx.own_far (H5.o2.mono (Nat.le_add_right _ 2)) ⟨w.heap.size + 1, 0, none⟩ (fun a ha => by have := (ol2 a.block (by rw [ha]; rfl)).1; show a.block ≠ w.heap.size + 1; omega) _) ⟨w.heap.size + 1, 1, none⟩ (fun a ha => by have := (ol2 a.block (by rw [ha]; rfl)).1; show a.block ≠ w.heap.size + 1; omega) _, H5.n3, (hW.setCell (by simp) _).setCell (by simp) _⟩)

end Go.Proofs.Ytccddejbbdciiaa
