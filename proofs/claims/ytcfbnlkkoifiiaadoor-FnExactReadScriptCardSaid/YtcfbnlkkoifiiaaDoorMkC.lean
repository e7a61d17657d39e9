/-
  Marks on scripts: that they are written, that they are held.
-/
import Derived.Test.YtcfbnlkkoifiiaaDoorMkB
import Derived.Test.YtcfbnlkkoifiiaaDoorScB
namespace Go.Proofs.YtcfbnlkkoifiiaaDoor
set_option maxRecDepth 100000
open Go.RowKit

set_option maxHeartbeats 800000 in
theorem markScript_any (A : Option Addr) (n c base1 : Nat) (ss : List ByteArray) (B : Option Addr) (m d base2 : Nat) (xs : List AX) (k0 : Int) (w : World) (o1 : Own w base1 9 1 eS (.slice A n c) ss) (o2 : Own w base2 49 4 eAct (.slice B m d) xs)
    (hap : (Value.slice B m d).ownBlock = none ∨ (Value.slice B m d).ownBlock ≠ (Value.slice A n c).ownBlock) (hn : n ≤ 1048577) (hm : m ≤ 1048577) (hk0 : 0 ≤ k0) (hk1 : k0 ≤ 8) :
    Calls Tryd.prog 8 #[.agg #[.slice A n c, .slice B m d], .int .i64 k0] w fun e w' => e = .returned (.int .i64 (k0 + n + m * 4)) ∧ Own w' base1 9 1 eS (.slice A n c) (marksS k0 n) ∧ Own w' base2 49 4 eAct (.slice B m d) (marksA (k0 + n) m) ∧ ∃ wm, w.grownBy wm (Value.slice A n c).ownBlock ∧ wm.grownBy w' (Value.slice B m d).ownBlock := by
  have hW := below_alloc w (.cells #[.slice A n c, .slice B m d] 25)
  have x0 : (w.alloc (.cells #[.slice A n c, .slice B m d] 25)).cell? ⟨w.heap.size, 0, none⟩ = some (.slice A n c) := by simp [go_sem]
  have x1 : (w.alloc (.cells #[.slice A n c, .slice B m d] 25)).cell? ⟨w.heap.size, 1, none⟩ = some (.slice B m d) := by simp [go_sem]
  have hs : w.heap.size < (w.alloc (.cells #[.slice A n c, .slice B m d] 25)).heap.size := by simp
  have l1 := o1.lt
  have l2 := o2.lt
  go_enter Tryd.func8, Tryd.ntmps8
  go_wp2_with fail
  have o1a := o1.below hW
  have o2a := o2.below hW
  generalize w.alloc (.cells #[.slice A n c, .slice B m d] 25) = W0 at hW x0 x1 hs o1a o2a ⊢
  refine (markStringS_any A n c base1 k0 ss _ o1a hn hk0 (by omega)).mono ?_
  rintro e w2 ⟨rfl, o1b, hg1⟩
  have y0 := hg1.cell x0 (by intro e; have := (l1 _ e.symm).2; simp at this)
  have y1 := hg1.cell x1 (by intro e; have := (l1 _ e.symm).2; simp at this)
  have o2b := o2a.grown hg1 hap
  go_wp2_with fail
  refine (markActS_any B m d base2 (k0 + n) xs _ o2b hm (by omega) (by omega)).mono ?_
  rintro e w3 ⟨rfl, o2c, hg2⟩
  have o1c := o1b.grown hg2 (ap_sym hap)
  go_wp2_with fail
  go_ret
  exact ⟨rfl, o1c, o2c, w2, grown_trans (grown_below hW) hg1, hg2⟩

theorem heldScript_any (A : Option Addr) (n c : Nat) (B : Option Addr) (m d : Nat) (k0 : Int) (w : World) (h : Sl w 1 eS A n (marksS k0 n)) (h2 : Sl w 4 eAct B m (marksA (k0 + n) m)) (hn : n ≤ 1048577) (hm : m ≤ 1048577) (hk0 : 0 ≤ k0) (hk1 : k0 ≤ 8) :
    Calls Tryd.prog 10 #[.agg #[.slice A n c, .slice B m d], .int .i64 k0] w fun e w' => e = .returned (.int .i64 (k0 + n + m * 4)) ∧ Below w.heap.size w w' := by
  have hW := below_alloc w (.cells #[.slice A n c, .slice B m d] 25)
  have x0 : (w.alloc (.cells #[.slice A n c, .slice B m d] 25)).cell? ⟨w.heap.size, 0, none⟩ = some (.slice A n c) := by simp [go_sem]
  have x1 : (w.alloc (.cells #[.slice A n c, .slice B m d] 25)).cell? ⟨w.heap.size, 1, none⟩ = some (.slice B m d) := by simp [go_sem]
  go_enter Tryd.func10, Tryd.ntmps10
  go_wp2_with fail
  generalize w.alloc (.cells #[.slice A n c, .slice B m d] 25) = W0 at hW x0 x1 ⊢
  refine (heldStringS_any A n c k0 _ (h.below hW) hn hk0 (by omega)).mono ?_
  rintro e w2 ⟨rfl, hb2⟩
  replace x0 := (hb2.cell (World.block_lt_of_cell? _ _ x0)).trans x0
  replace x1 := (hb2.cell (World.block_lt_of_cell? _ _ x1)).trans x1
  have hW2 := below_step hW hb2
  have hp1 : ¬ (k0 + (n : Int)) < 0 := by omega
  go_wp2_with fail
  refine (heldActS_any B m d (k0 + n) _ (h2.below hW2) hm (by omega) (by omega)).mono ?_
  rintro e w3 ⟨rfl, hb3⟩
  have hp2 : ¬ (k0 + (n : Int) + (m : Int) * 4) < 0 := by omega
  go_wp2_with fail
  go_ret
  exact ⟨rfl, below_step hW2 hb3⟩

end Go.Proofs.YtcfbnlkkoifiiaaDoor
