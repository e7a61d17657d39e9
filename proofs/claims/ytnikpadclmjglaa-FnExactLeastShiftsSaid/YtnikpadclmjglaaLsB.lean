/-
  The least hands with shifts, the program's side.
-/
import Derived.Test.YtnikpadclmjglaaLsA
import Derived.Test.YtnikpadclmjglaaCuC
namespace Go.Proofs.Ytnikpadclmjglaa
set_option maxRecDepth 100000
open Go.RowKit

/-- what the walk through all shifts holds: the least hands in a box -/
structure IvH (L : Option Addr) (n c p4 p1 : Nat) (l : Int) (w : World) : Prop where
  c4 : w.cell? ⟨p4, 0, none⟩ = some (.int .i64 l)
  f4 : w.frozen? ⟨p4, 0, none⟩ = false
  c1 : w.cell? ⟨p1, 0, none⟩ = some (.slice L n c)
  lo : 0 ≤ l
  hi : l ≤ 24
theorem IvH.below {L : Option Addr} {n c p4 p1 : Nat} {l : Int} {w w' : World} (h : IvH L n c p4 p1 l w) (hb : Below w.heap.size w w') : IvH L n c p4 p1 l w' :=
  ⟨(hb.cell (World.block_lt_of_cell? _ _ h.c4)).trans h.c4, (hb.frozen (World.block_lt_of_cell? _ _ h.c4)).trans h.f4, (hb.cell (World.block_lt_of_cell? _ _ h.c1)).trans h.c1, h.lo, h.hi⟩

set_option maxHeartbeats 1600000 in
theorem HandsWithSlack1_any (L : Option Addr) (n c p4 p1 : Nat) (hp : p1 ≠ p4) (xs : List Cu) (ok : CuOk xs) (l : Int) (s : List Int) (A : Option Addr) (m d : Nat) (w : World) (hI : IvH L n c p4 p1 l w) (hL : Sl w 4 e4 L n xs) (hs : Sl w 1 e1 A m s) (hm : m = n) (hsb : ShB xs s) :
    Calls Try.prog 32 #[.slice A m d, .pointer (some ⟨p4, 0, none⟩), .pointer (some ⟨p1, 0, none⟩)] w fun e w' => e = .returned (.tuple #[]) ∧ IvH L n c p4 p1 (hsStep xs l s) w' ∧ Kp (fun k => k = p4) w w' := by
  obtain rfl : m = n := hm
  have okw : CuW (scL xs s) := zS_w ok hsb
  have hmb : 0 ≤ most (scL xs s) ∧ most (scL xs s) ≤ 24 := okw.mostK_bd _
  have c4 : w.drew.cell? ⟨p4, 0, none⟩ = some (.int .i64 l) := hI.c4
  have f4 : w.drew.frozen? ⟨p4, 0, none⟩ = false := hI.f4
  have c1 : w.drew.cell? ⟨p1, 0, none⟩ = some (.slice L m c) := hI.c1
  have hl0 := hI.lo
  have hl1 := hI.hi
  have hk : Kp (fun k => k = p4) w w.drew := Kp.of_below (Below.refl _ _).drew
  have HQ : Hid (hsStep xs l s = min l (most (scL xs s))) := rfl
  have HL := Lib.hid hL.drew
  have HS := Lib.hid hs.drew
  clear hI hL hs
  go_enter Try.func32, Try.ntmps32
  go_wp2_with fail
  go_region_law (first
      | (go_simp; go_at_call 33; refine (shiftCues_any L m c xs A m d s _ HL.out ok HS.out rfl hsb.all).mono ?_; rintro e wa ⟨A3, n3, c3, rfl, ho, hbA⟩; replace f4 := (hbA.frozen (World.block_lt_of_cell? _ _ c4)).trans f4; replace c4 := (hbA.cell (World.block_lt_of_cell? _ _ c4)).trans c4; replace c1 := (hbA.cell (World.block_lt_of_cell? _ _ c1)).trans c1; replace hk := hk.trans (Kp.of_below hbA))
      | (go_simp; go_at_call 30; refine (mostHands_any A3 n3 c3 _ _ (ho.sl e4_len) okw).mono ?_; rintro e wb ⟨rfl, hbB⟩; replace f4 := (hbB.frozen (World.block_lt_of_cell? _ _ c4)).trans f4; replace c4 := (hbB.cell (World.block_lt_of_cell? _ _ c4)).trans c4; replace c1 := (hbB.cell (World.block_lt_of_cell? _ _ c1)).trans c1; replace hk := hk.trans (Kp.of_below hbB)))
  all_goals go_wp2_with fail
  all_goals (
    go_end0
    refine ⟨rfl, ⟨(World.cell?_setCell_same _ _ _ c4).trans (congrArg (fun z => some (Value.int .i64 z)) ?_), by rw [World.frozen?_setCell]; exact f4, (World.cell?_setCell_other _ _ _ _ (by intro e; injection e with e1; first | exact hp e1 | exact hp e1.symm)).trans c1, ?_, ?_⟩, hk.setCell rfl _⟩ <;> rw [HQ.out] <;> omega)


def hwVal (xs : List Cu) : Int := if cueOk xs then hsAll xs else 0
theorem lt_al (W : World) (o : Obj) : W.heap.size < (W.alloc o).heap.size := by simp

set_option maxHeartbeats 1600000 in
theorem implHandsWithSlack_any (A : Option Addr) (n c : Nat) (xs : List Cu) (w : World) (h : Sl w 4 e4 A n xs) (hn : n ≤ 1048577) :
    Calls Try.prog 10 #[.slice A n c] w fun e w' => e = .returned (.tuple #[.int .i64 (hwVal xs), .int .i64 (cueCode xs)]) ∧ Below w.heap.size w w' := by
  cases hok : cueOk xs
  · go_enter Try.func10, Try.ntmps10
    go_wp2_with fail
    refine (implValidCues_any A n c xs _ (h.alloc _) hn).mono ?_
    rintro e w2 ⟨rfl, hb⟩
    have hb2 := (below_alloc w _).trans (hb.mono (below_alloc _ _).size)
    go_wp2_with fail
    go_ret2
    exact ⟨ret2 (by simp [hwVal, hok]) (by simp [cueCode, hok]), hb2⟩
  · have ok := cueOk_iff.1 hok
    have hmb := ok.w.mostK_bd xs.length
    have HQ1 : Hid (hwVal xs = hsAll xs) := by rw [Hid, hwVal, hok]; rfl
    go_enter Try.func10, Try.ntmps10
    go_wp2_with fail
    refine (implValidCues_any A n c xs _ (h.alloc _) hn).mono ?_
    rintro e w2 ⟨rfl, hb⟩
    have c1 := (hb.cell (lt_al _ _)).trans (newcell w #[.slice A n c] _ _ rfl 0)
    have c1 : w2.cell? ⟨w.heap.size, 0, none⟩ = some (.slice A n c) := c1
    have hb2 := (below_alloc w _).trans (hb.mono (below_alloc _ _).size)
    clear hb
    have l2 := World.block_lt_of_cell? _ _ c1
    go_wp2_with fail
    refine (mostHands_any A n c xs _ (h.below hb2) ok.w).mono ?_
    rintro e w3 ⟨rfl, hb3⟩
    replace c1 := (hb3.cell l2).trans c1
    have hb3 := below_mid hb2 hb3 hb2.size
    have l3 := World.block_lt_of_cell? _ _ c1
    have hI : IvH A n c w3.heap.size w.heap.size (most xs) (w3.alloc (.cells #[.int .i64 (most xs)] 2)) :=
      ⟨newcell w3 _ _ _ rfl 0, World.frozen?_alloc_new _ _ _ _, cell_al c1 _, hmb.1, hmb.2⟩
    have HI := Lib.hid hI
    clear hI
    go_wp2_with fail
    refine (allShifts_HS (fun k => k = w3.heap.size) (w3.heap.size + 1) (fun k hk => by omega) A n c xs ok h.1 (fun hp a ha hs => by have := (h.below hb3).lt hp a ha; omega) w3.heap.size w.heap.size (hsStep xs) (IvH A n c w3.heap.size w.heap.size) (fun st w w' hh hb => hh.below hb) (fun st s A' m d w' _ hI hL hS hm hsb => HandsWithSlack1_any A n c w3.heap.size w.heap.size (by have := l3; omega) xs ok st s A' m d w' hI hL hS hm hsb) n [] none 0 0 (most xs) _ (by omega) (by simp) HI.out ((h.below hb3).alloc _) (Sl.nil _) (fun a ha => by cases ha) (ShB.nil _)).mono ?_
    rintro e w4 ⟨rfl, hI4, hk4⟩
    rw [List.drop_zero] at hI4
    have c4 := hI4.c4
    have hb4 := hk4.below (B := w.heap.size) (by rintro k rfl; omega) (by simp; omega)
    have hb5 := (hb3.alloc (by omega) _).trans hb4
    go_wp2_with fail
    go_ret2
    exact ⟨ret2 (by rw [HQ1.out]; rfl) (by simp [cueCode, hok]), hb5⟩

end Go.Proofs.Ytnikpadclmjglaa
