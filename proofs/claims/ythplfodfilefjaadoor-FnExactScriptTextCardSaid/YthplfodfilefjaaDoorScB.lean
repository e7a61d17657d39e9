/-
  The laws' helpers on scripts: a copy, equality of two.
-/
import Derived.Test.YthplfodfilefjaaDoorSc
namespace Go.Proofs.YthplfodfilefjaaDoor
set_option maxRecDepth 100000
open Go.RowKit

theorem Own.far {α : Type} {enc : α → List Value} {w : World} {base : Nat} {T : TypeId} {k g n c : Nat} {xs : List α} (h : Own w base T k enc (.slice (some ⟨g, 0, none⟩) n c) xs) (p : Addr) (hne : g ≠ p.block) (u : Value) : Own (w.setCell p u) base T k enc (.slice (some ⟨g, 0, none⟩) n c) xs :=
  h.grown (only_setCell (World.grownBy.refl w (some p.block)) (.inl rfl) u) (.inr (by simp [Value.ownBlock]; exact hne))

set_option maxHeartbeats 800000 in
theorem toScript_any (A : Option Addr) (n c : Nat) (ss : List ByteArray) (B : Option Addr) (m d : Nat) (xs : List (Int × ByteArray × ByteArray × Int)) (w : World) (h : Sl w 1 eS A n ss) (h2 : Sl w 4 eAct B m xs) (hn : n ≤ 1048576) (hm : m ≤ 1048576) :
    Calls Tryd.prog 8 #[.agg #[.slice A n c, .slice B m d]] w fun e w' => ∃ g1 g2, e = .returned (.agg #[.slice (some ⟨g1, 0, none⟩) n n, .slice (some ⟨g2, 0, none⟩) m m]) ∧ g1 < g2 ∧ Own w' w.heap.size 9 1 eS (.slice (some ⟨g1, 0, none⟩) n n) ss ∧ Own w' w.heap.size 56 4 eAct (.slice (some ⟨g2, 0, none⟩) m m) xs ∧ Below w.heap.size w w' := by
  go_enter Tryd.func8, Tryd.ntmps8
  go_wp2_with fail
  have hs3 : (((w.alloc (.cells #[.slice A n c, .slice B m d] 25)).alloc (.cells #[.slice none 0 0, .slice none 0 0] 30)).alloc (.cells #[.slice none 0 0, .slice none 0 0] 30)).heap.size = w.heap.size + 3 := by simp
  have hW : Below w.heap.size w (((w.alloc (.cells #[.slice A n c, .slice B m d] 25)).alloc (.cells #[.slice none 0 0, .slice none 0 0] 30)).alloc (.cells #[.slice none 0 0, .slice none 0 0] 30)) := (((below_alloc w _).alloc (by simp) _).alloc (by simp <;> omega) _)
  have a0 : (((w.alloc (.cells #[.slice A n c, .slice B m d] 25)).alloc (.cells #[.slice none 0 0, .slice none 0 0] 30)).alloc (.cells #[.slice none 0 0, .slice none 0 0] 30)).cell? ⟨w.heap.size, 0, none⟩ = some (.slice A n c) := by simp [go_sem]
  have a1 : (((w.alloc (.cells #[.slice A n c, .slice B m d] 25)).alloc (.cells #[.slice none 0 0, .slice none 0 0] 30)).alloc (.cells #[.slice none 0 0, .slice none 0 0] 30)).cell? ⟨w.heap.size, 1, none⟩ = some (.slice B m d) := by simp [go_sem]
  have r0 : (((w.alloc (.cells #[.slice A n c, .slice B m d] 25)).alloc (.cells #[.slice none 0 0, .slice none 0 0] 30)).alloc (.cells #[.slice none 0 0, .slice none 0 0] 30)).cell? ⟨w.heap.size + 1, 0, none⟩ = some (.slice none 0 0) := by simp [go_sem]
  have r1 : (((w.alloc (.cells #[.slice A n c, .slice B m d] 25)).alloc (.cells #[.slice none 0 0, .slice none 0 0] 30)).alloc (.cells #[.slice none 0 0, .slice none 0 0] 30)).cell? ⟨w.heap.size + 1, 1, none⟩ = some (.slice none 0 0) := by simp [go_sem]
  have o0 : (((w.alloc (.cells #[.slice A n c, .slice B m d] 25)).alloc (.cells #[.slice none 0 0, .slice none 0 0] 30)).alloc (.cells #[.slice none 0 0, .slice none 0 0] 30)).cell? ⟨w.heap.size + 1 + 1, 0, none⟩ = some (.slice none 0 0) := by simp [go_sem]
  have o1 : (((w.alloc (.cells #[.slice A n c, .slice B m d] 25)).alloc (.cells #[.slice none 0 0, .slice none 0 0] 30)).alloc (.cells #[.slice none 0 0, .slice none 0 0] 30)).cell? ⟨w.heap.size + 1 + 1, 1, none⟩ = some (.slice none 0 0) := by simp [go_sem]
  have y0 : (((w.alloc (.cells #[.slice A n c, .slice B m d] 25)).alloc (.cells #[.slice none 0 0, .slice none 0 0] 30)).alloc (.cells #[.slice none 0 0, .slice none 0 0] 30)).frozen? ⟨w.heap.size + 1, 0, none⟩ = false := by simp [go_sem]
  have y1 : (((w.alloc (.cells #[.slice A n c, .slice B m d] 25)).alloc (.cells #[.slice none 0 0, .slice none 0 0] 30)).alloc (.cells #[.slice none 0 0, .slice none 0 0] 30)).frozen? ⟨w.heap.size + 1, 1, none⟩ = false := by simp [go_sem]
  have z0 : (((w.alloc (.cells #[.slice A n c, .slice B m d] 25)).alloc (.cells #[.slice none 0 0, .slice none 0 0] 30)).alloc (.cells #[.slice none 0 0, .slice none 0 0] 30)).frozen? ⟨w.heap.size + 1 + 1, 0, none⟩ = false := by simp [go_sem]
  have z1 : (((w.alloc (.cells #[.slice A n c, .slice B m d] 25)).alloc (.cells #[.slice none 0 0, .slice none 0 0] 30)).alloc (.cells #[.slice none 0 0, .slice none 0 0] 30)).frozen? ⟨w.heap.size + 1 + 1, 1, none⟩ = false := by simp [go_sem]
  generalize (((w.alloc (.cells #[.slice A n c, .slice B m d] 25)).alloc (.cells #[.slice none 0 0, .slice none 0 0] 30)).alloc (.cells #[.slice none 0 0, .slice none 0 0] 30)) = W3 at hs3 hW a0 a1 r0 r1 o0 o1 y0 y1 z0 z1 ⊢
  have HS3 := Lib.hid hs3
  clear hs3
  refine (toStringS_any A n c ss _ (h.below hW) hn).mono ?_
  rintro e w4 ⟨rfl, own1, hb4⟩
  have a04 := (hb4.cell (World.block_lt_of_cell? _ _ a0)).trans a0
  have a14 := (hb4.cell (World.block_lt_of_cell? _ _ a1)).trans a1
  have r04 := (hb4.cell (World.block_lt_of_cell? _ _ r0)).trans r0
  have r14 := (hb4.cell (World.block_lt_of_cell? _ _ r1)).trans r1
  have o04 := (hb4.cell (World.block_lt_of_cell? _ _ o0)).trans o0
  have o14 := (hb4.cell (World.block_lt_of_cell? _ _ o1)).trans o1
  have y04 := (hb4.frozen (World.block_lt_of_cell? _ _ r0)).trans y0
  have y14 := (hb4.frozen (World.block_lt_of_cell? _ _ r1)).trans y1
  have z04 := (hb4.frozen (World.block_lt_of_cell? _ _ o0)).trans z0
  have z14 := (hb4.frozen (World.block_lt_of_cell? _ _ o1)).trans z1
  have hW4 := below_step hW hb4
  clear a0 a1 r0 r1 o0 o1 y0 y1 z0 z1
  go_wp2_with fail
  have k1 : (w4.setCell ⟨w.heap.size + 1 + 1, 0, none⟩ (.slice (some ⟨W3.heap.size, 0, none⟩) n n)).cell? ⟨w.heap.size, 1, none⟩ = some (.slice B m d) := (World.cell?_setCell_other _ _ _ _ (by simp)).trans a14
  have k2 : (w4.setCell ⟨w.heap.size + 1 + 1, 0, none⟩ (.slice (some ⟨W3.heap.size, 0, none⟩) n n)).cell? ⟨w.heap.size + 1 + 1, 0, none⟩ = some (.slice (some ⟨W3.heap.size, 0, none⟩) n n) := World.cell?_setCell_same _ _ _ o04
  have k3 : (w4.setCell ⟨w.heap.size + 1 + 1, 0, none⟩ (.slice (some ⟨W3.heap.size, 0, none⟩) n n)).cell? ⟨w.heap.size + 1 + 1, 1, none⟩ = some (.slice none 0 0) := (World.cell?_setCell_other _ _ _ _ (by simp)).trans o14
  have k4 : (w4.setCell ⟨w.heap.size + 1 + 1, 0, none⟩ (.slice (some ⟨W3.heap.size, 0, none⟩) n n)).cell? ⟨w.heap.size + 1, 0, none⟩ = some (.slice none 0 0) := (World.cell?_setCell_other _ _ _ _ (by simp)).trans r04
  have k5 : (w4.setCell ⟨w.heap.size + 1 + 1, 0, none⟩ (.slice (some ⟨W3.heap.size, 0, none⟩) n n)).cell? ⟨w.heap.size + 1, 1, none⟩ = some (.slice none 0 0) := (World.cell?_setCell_other _ _ _ _ (by simp)).trans r14
  have f1 : (w4.setCell ⟨w.heap.size + 1 + 1, 0, none⟩ (.slice (some ⟨W3.heap.size, 0, none⟩) n n)).frozen? ⟨w.heap.size + 1 + 1, 1, none⟩ = false := by rw [World.frozen?_setCell]; exact z14
  have f2 : (w4.setCell ⟨w.heap.size + 1 + 1, 0, none⟩ (.slice (some ⟨W3.heap.size, 0, none⟩) n n)).frozen? ⟨w.heap.size + 1, 0, none⟩ = false := by rw [World.frozen?_setCell]; exact y04
  have f3 : (w4.setCell ⟨w.heap.size + 1 + 1, 0, none⟩ (.slice (some ⟨W3.heap.size, 0, none⟩) n n)).frozen? ⟨w.heap.size + 1, 1, none⟩ = false := by rw [World.frozen?_setCell]; exact y14
  have own5 := own1.grown (only_setCell (World.grownBy.refl w4 (some (w.heap.size + 1 + 1))) (p := ⟨w.heap.size + 1 + 1, 0, none⟩) (.inl rfl) (.slice (some ⟨W3.heap.size, 0, none⟩) n n)) (.inr (by have := HS3.out; simp [Value.ownBlock]; omega))
  have hW5 : Below w.heap.size w (w4.setCell ⟨w.heap.size + 1 + 1, 0, none⟩ (.slice (some ⟨W3.heap.size, 0, none⟩) n n)) := hW4.setCell (by simp; omega) _
  have hs5 : w.heap.size + 3 < (w4.setCell ⟨w.heap.size + 1 + 1, 0, none⟩ (.slice (some ⟨W3.heap.size, 0, none⟩) n n)).heap.size := by have := own5.blt.2; have := HS3.out; omega
  clear a04 a14 r04 r14 o04 o14 y04 y14 z04 z14 own1
  generalize hg1 : W3.heap.size = g1 at own5 k1 k2 k3 k4 k5 f1 f2 f3 hW5 hs5 ⊢
  generalize w4.setCell ⟨w.heap.size + 1 + 1, 0, none⟩ (.slice (some ⟨g1, 0, none⟩) n n) = w5 at own5 k1 k2 k3 k4 k5 f1 f2 f3 hW5 hs5 ⊢
  refine (toActS_any B m d xs _ (h2.below hW5) hm).mono ?_
  rintro e w6 ⟨rfl, own2, hb6⟩
  have own6 := own5.below hb6
  have hW6 := below_step hW5 hb6
  have n2 := (hb6.cell (World.block_lt_of_cell? _ _ k2)).trans k2
  have n3 := (hb6.cell (World.block_lt_of_cell? _ _ k3)).trans k3
  have n4 := (hb6.cell (World.block_lt_of_cell? _ _ k4)).trans k4
  have n5 := (hb6.cell (World.block_lt_of_cell? _ _ k5)).trans k5
  have e1 := (hb6.frozen (World.block_lt_of_cell? _ _ k3)).trans f1
  have e2 := (hb6.frozen (World.block_lt_of_cell? _ _ k4)).trans f2
  have e3 := (hb6.frozen (World.block_lt_of_cell? _ _ k5)).trans f3
  have hg12 : g1 < w5.heap.size := own5.blt.2
  have hs5' := hs5
  generalize hg2 : w5.heap.size = g2 at own2 hs5 hg12 ⊢
  clear k1 k2 k3 k4 k5 f1 f2 f3
  go_wp2_with fail
  have x2 : (w6.setCell ⟨w.heap.size + 1 + 1, 1, none⟩ (.slice (some ⟨g2, 0, none⟩) m m)).cell? ⟨w.heap.size + 1 + 1, 0, none⟩ = some (.slice (some ⟨g1, 0, none⟩) n n) := (World.cell?_setCell_other _ _ _ _ (by simp)).trans n2
  have x3 : (w6.setCell ⟨w.heap.size + 1 + 1, 1, none⟩ (.slice (some ⟨g2, 0, none⟩) m m)).cell? ⟨w.heap.size + 1 + 1, 1, none⟩ = some (.slice (some ⟨g2, 0, none⟩) m m) := World.cell?_setCell_same _ _ _ n3
  have y0 : (w6.setCell ⟨w.heap.size + 1 + 1, 1, none⟩ (.slice (some ⟨g2, 0, none⟩) m m)).cell? ⟨w.heap.size + 1, 0, none⟩ = some (.slice none 0 0) := (World.cell?_setCell_other _ _ _ _ (by simp)).trans n4
  have y1 : ((w6.setCell ⟨w.heap.size + 1 + 1, 1, none⟩ (.slice (some ⟨g2, 0, none⟩) m m)).setCell ⟨w.heap.size + 1, 0, none⟩ (.slice (some ⟨g1, 0, none⟩) n n)).cell? ⟨w.heap.size + 1, 1, none⟩ = some (.slice none 0 0) := (World.cell?_setCell_other _ _ _ _ (by simp)).trans ((World.cell?_setCell_other _ _ _ _ (by simp)).trans n5)
  have q0 : (((w6.setCell ⟨w.heap.size + 1 + 1, 1, none⟩ (.slice (some ⟨g2, 0, none⟩) m m)).setCell ⟨w.heap.size + 1, 0, none⟩ (.slice (some ⟨g1, 0, none⟩) n n)).setCell ⟨w.heap.size + 1, 1, none⟩ (.slice (some ⟨g2, 0, none⟩) m m)).cell? ⟨w.heap.size + 1, 0, none⟩ = some (.slice (some ⟨g1, 0, none⟩) n n) := (World.cell?_setCell_other _ _ _ _ (by simp)).trans (World.cell?_setCell_same _ _ _ y0)
  have q1 : (((w6.setCell ⟨w.heap.size + 1 + 1, 1, none⟩ (.slice (some ⟨g2, 0, none⟩) m m)).setCell ⟨w.heap.size + 1, 0, none⟩ (.slice (some ⟨g1, 0, none⟩) n n)).setCell ⟨w.heap.size + 1, 1, none⟩ (.slice (some ⟨g2, 0, none⟩) m m)).cell? ⟨w.heap.size + 1, 1, none⟩ = some (.slice (some ⟨g2, 0, none⟩) m m) := World.cell?_setCell_same _ _ _ y1
  have hh := HS3.out
  exact bodyPost_ret (v := .agg #[.slice (some ⟨g1, 0, none⟩) n n, .slice (some ⟨g2, 0, none⟩) m m]) (by simp [results, Tryd.results8, go_sem, q0, q1]) rfl ⟨g1, g2, rfl, hg12, (((own6.mono (by have := HS3.out; omega)).far _ (by simp; omega) _).far _ (by simp; omega) _).far _ (by simp; omega) _, ((((own2.mono (show w.heap.size ≤ g2 by omega)).far _ (by simp; omega) _).far _ (by simp; omega) _).far _ (by simp; omega) _), ((hW6.setCell (by simp; omega) _).setCell (by simp) _).setCell (by simp) _⟩

end Go.Proofs.YthplfodfilefjaaDoor
