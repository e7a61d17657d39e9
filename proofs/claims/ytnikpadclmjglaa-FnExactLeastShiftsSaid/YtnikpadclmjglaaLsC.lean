/-
  The least shifts, the program's side.
-/
import Derived.Test.YtnikpadclmjglaaLsB
namespace Go.Proofs.Ytnikpadclmjglaa
set_option maxRecDepth 100000
open Go.RowKit

def lsVal (xs : List Cu) (h : Int) : List Int := if hCode xs h = 0 ∧ 0 ≤ (lsAll xs h).2 then (lsAll xs h).1 else []
def lsCode (xs : List Cu) (h : Int) : Int := if hCode xs h = 0 then (if 0 ≤ (lsAll xs h).2 then 0 else 3) else hCode xs h

theorem sumOf_any (A : Option Addr) (n c : Nat) (s : List Int) (w : World) (h : Sl w 1 e1 A n s) (hn : n ≤ 6) (hbd : ∀ b ∈ s, 0 ≤ b ∧ b ≤ 6) :
    Calls Try.prog 38 #[.slice A n c] w fun e w' => e = .returned (.int .i64 (sumL s)) ∧ w' = w := by
  have HL := Lib.hid h.1
  have HB : ∀ k, 0 ≤ sumL (s.take k) ∧ sumL (s.take k) ≤ 36 := fun k => by
    have h1 := sumL_le (s := s.take k) (fun b hb => hbd b (List.mem_of_mem_take hb))
    have h2 : (s.take k).length ≤ 6 := by rw [List.length_take]; have := h.1; omega
    omega
  have HB := Lib.hid HB
  go_enter Try.func38, Try.ntmps38
  go_wp2
  go_loopw [3, 8] (fun t i wr => ∃ k : Nat, k ≤ n ∧ i = .int .i64 k ∧ t = .int .i64 (sumL (s.take k)) ∧ wr = w) (fun _ i _ => n - (intOf i).toNat)
  case atStart => refine ⟨0, ?_⟩; simp [sumL]
  case round =>
    obtain ⟨k, hk, rfl, rfl, rfl⟩ := hrel
    by_cases hlt : k < n
    · obtain ⟨b, off, x, rfl, hx, hm, c0⟩ := h.at1 hlt
      have HS : Hid (sumL (s.take (k + 1)) = sumL (s.take k) + x) := by
        rw [Hid, sumL, foldl_step _ _ hx]; rfl
      have hk1 := HB.out k
      have hx1 := hbd x hm
      go_wp2_with fail
      go_roundw
      case rel => exact ⟨k + 1, by omega, by go_num, by rw [HS.out], trivial⟩
      case measure => simp [intOf]; omega
    · obtain rfl : k = n := by omega
      go_wp2
      go_ret
      exact ⟨ret_int (by rw [List.take_of_length_le (by rw [HL.out]; exact Nat.le_refl _)]), rfl⟩

/-- what the walk through all shifts holds: the best shifts, their sum -/
structure IvL (B0 : Nat) (L : Option Addr) (n c p8 p2 p3 p7 : Nat) (h : Int) (st : List Int × Int) (w : World) : Prop where
  c8 : w.cell? ⟨p8, 0, none⟩ = some (.int .i64 st.2)
  f8 : w.frozen? ⟨p8, 0, none⟩ = false
  c2 : w.cell? ⟨p2, 0, none⟩ = some (.slice L n c)
  c3 : w.cell? ⟨p3, 0, none⟩ = some (.int .i64 h)
  c7 : ∃ v, w.cell? ⟨p7, 0, none⟩ = some v ∧ Own w B0 2 1 e1 v st.1 ∧ ∀ g, v.ownBlock = some g → g ≠ p7 ∧ g ≠ p8
  f7 : w.frozen? ⟨p7, 0, none⟩ = false
  lo : -1 ≤ st.2
  hi : st.2 ≤ 36
theorem IvL.below {B0 : Nat} {L : Option Addr} {n c p8 p2 p3 p7 : Nat} {h : Int} {st : List Int × Int} {w w' : World} (hh : IvL B0 L n c p8 p2 p3 p7 h st w) (hb : Below w.heap.size w w') : IvL B0 L n c p8 p2 p3 p7 h st w' := by
  obtain ⟨v, hv, ho, hg⟩ := hh.c7
  have l8 := World.block_lt_of_cell? _ _ hh.c8
  have l7 := World.block_lt_of_cell? _ _ hv
  exact ⟨(hb.cell l8).trans hh.c8, (hb.frozen l8).trans hh.f8, (hb.cell (World.block_lt_of_cell? _ _ hh.c2)).trans hh.c2, (hb.cell (World.block_lt_of_cell? _ _ hh.c3)).trans hh.c3, ⟨v, (hb.cell l7).trans hv, ho.below hb, hg⟩, (hb.frozen l7).trans hh.f7, hh.lo, hh.hi⟩
theorem Own.setc {α : Type} {w : World} {base : Nat} {e : TypeId} {k : Nat} {enc : α → List Value} {v : Value} {xs : List α} (h : Own w base e k enc v xs) (p : Addr) (u : Value) (hv : ∀ g, v.ownBlock = some g → g ≠ p.block) : Own (w.setCell p u) base e k enc v xs :=
  h.kp (S := fun k => k = p.block) ((Kp.refl (fun k => k = p.block) w).setCell (p := p) rfl u) fun g hg e => hv g hg e
theorem IvL.put {B0 : Nat} {L : Option Addr} {n c p8 p2 p3 p7 : Nat} {h : Int} {st : List Int × Int} {w : World} (hh : IvL B0 L n c p8 p2 p3 p7 h st w) (d1 : p2 ≠ p8) (d2 : p2 ≠ p7) (d3 : p3 ≠ p8) (d4 : p3 ≠ p7) (d5 : p7 ≠ p8) {v : Value} {s : List Int} {m : Int} (ho : Own w B0 2 1 e1 v s) (hg : ∀ g, v.ownBlock = some g → g ≠ p7 ∧ g ≠ p8) (h0 : -1 ≤ m) (h1 : m ≤ 36) :
    IvL B0 L n c p8 p2 p3 p7 h (s, m) ((w.setCell ⟨p7, 0, none⟩ v).setCell ⟨p8, 0, none⟩ (.int .i64 m)) := by
  obtain ⟨v0, hv0, _, _⟩ := hh.c7
  have a87 : (w.setCell ⟨p7, 0, none⟩ v).cell? ⟨p8, 0, none⟩ = some (.int .i64 st.2) := (World.cell?_setCell_other _ _ _ _ (by intro e; injection e with e1; first | exact d5 e1 | exact d5 e1.symm)).trans hh.c8
  refine ⟨World.cell?_setCell_same _ _ _ a87, ?_, ?_, ?_, ⟨v, ?_, (ho.setc _ _ fun g hg' => (hg g hg').1).setc _ _ fun g hg' => (hg g hg').2, hg⟩, ?_, h0, h1⟩
  · rw [World.frozen?_setCell, World.frozen?_setCell]; exact hh.f8
  · exact ((World.cell?_setCell_other _ _ _ _ (by intro e; injection e with e1; first | exact d1 e1 | exact d1 e1.symm)).trans (World.cell?_setCell_other _ _ _ _ (by intro e; injection e with e1; first | exact d2 e1 | exact d2 e1.symm))).trans hh.c2
  · exact ((World.cell?_setCell_other _ _ _ _ (by intro e; injection e with e1; first | exact d3 e1 | exact d3 e1.symm)).trans (World.cell?_setCell_other _ _ _ _ (by intro e; injection e with e1; first | exact d4 e1 | exact d4 e1.symm))).trans hh.c3
  · exact (World.cell?_setCell_other _ _ _ _ (by intro e; injection e with e1; first | exact d5 e1 | exact d5 e1.symm)).trans (World.cell?_setCell_same _ _ _ hv0)
  · rw [World.frozen?_setCell, World.frozen?_setCell]; exact hh.f7

set_option maxHeartbeats 4000000 in
theorem LeastShifts1_yes (B0 : Nat) (L : Option Addr) (n c p8 p2 p3 p7 : Nat) (d1 : p2 ≠ p8) (d2 : p2 ≠ p7) (d3 : p3 ≠ p8) (d4 : p3 ≠ p7) (d5 : p7 ≠ p8) (xs : List Cu) (ok : CuOk xs) (h : Int) (st : List Int × Int) (s : List Int) (A : Option Addr) (m d : Nat) (w : World) (hB0 : B0 ≤ w.heap.size) (hI : IvL B0 L n c p8 p2 p3 p7 h st w) (hL : Sl w 4 e4 L n xs) (hs : Sl w 1 e1 A m s) (hm : m = n) (hsb : ShB xs s) (hcase : decide (st.2 < 0) = true ∧ decide (most (scL xs s) ≤ h) = true ∨ decide (st.2 < 0) = false ∧ decide (sumL s < st.2) = true ∧ decide (most (scL xs s) ≤ h) = true) :
    Calls Try.prog 37 #[.slice A m d, .pointer (some ⟨p8, 0, none⟩), .pointer (some ⟨p2, 0, none⟩), .pointer (some ⟨p3, 0, none⟩), .pointer (some ⟨p7, 0, none⟩)] w fun e w' => e = .returned (.tuple #[]) ∧ IvL B0 L n c p8 p2 p3 p7 h (lsStep xs h st s) w' ∧ Kp (fun k => k = p8 ∨ k = p7) w w' := by
  obtain rfl : m = n := hm
  have okw : CuW (scL xs s) := zS_w ok hsb
  have hmb : 0 ≤ most (scL xs s) ∧ most (scL xs s) ≤ 24 := okw.mostK_bd _
  have hm6 : m ≤ 6 := by rw [← hL.1]; exact ok.len
  have hsum := sumL_le (hsb.bd ok)
  have hsl := hs.1
  have hl0 := hI.lo
  have hl1 := hI.hi
  have c8 : w.drew.cell? ⟨p8, 0, none⟩ = some (.int .i64 st.2) := hI.c8
  have c2 : w.drew.cell? ⟨p2, 0, none⟩ = some (.slice L m c) := hI.c2
  have c3 : w.drew.cell? ⟨p3, 0, none⟩ = some (.int .i64 h) := hI.c3
  have hb : Below w.heap.size w w.drew := (Below.refl _ _).drew
  have HL := Lib.hid hL.drew
  have HS := Lib.hid hs.drew
  have HS0 := Lib.hid hs
  have HI := Lib.hid hI
  have HQ : Hid (lsStep xs h st s = if (st.2 < 0 ∨ sumL s < st.2) ∧ most (scL xs s) ≤ h then (s, sumL s) else st) := rfl
  clear hI hL hs
  have HC := Lib.hid hcase
  rcases hcase with ⟨t1, t2⟩ | ⟨t1, t2, t3⟩
  all_goals
    go_enter Try.func37, Try.ntmps37
    go_wp2_with fail
    refine (sumOf_any A m d s _ HS0.out hm6 (hsb.bd ok)).mono ?_
    rintro e w1 ⟨rfl, rfl⟩
    go_wp2_with fail
    first | (go_region_with (first
      | (go_at_call 33; refine (shiftCues_any L m c xs A m d s _ HL.out ok HS.out rfl hsb.all).mono ?_; rintro e wa ⟨A3, n3, c3', rfl, ho, hbA⟩; replace c8 := (hbA.cell (World.block_lt_of_cell? _ _ c8)).trans c8; replace c2 := (hbA.cell (World.block_lt_of_cell? _ _ c2)).trans c2; replace c3 := (hbA.cell (World.block_lt_of_cell? _ _ c3)).trans c3; replace hb := below_mid hb hbA hb.size)
      | (go_at_call 30; refine (mostHands_any A3 n3 c3' _ _ (ho.sl e4_len) okw).mono ?_; rintro e wb ⟨rfl, hbB⟩; replace c8 := (hbB.cell (World.block_lt_of_cell? _ _ c8)).trans c8; replace c2 := (hbB.cell (World.block_lt_of_cell? _ _ c2)).trans c2; replace c3 := (hbB.cell (World.block_lt_of_cell? _ _ c3)).trans c3; replace hb := below_mid hb hbB hb.size))) | fail "region"
    all_goals go_wp2_with fail
    all_goals (
      refine (CloneI_any A m d s _ ((HS0.out).below hb) (by omega)).mono ?_
      rintro e w2 ⟨A2, n2, c2', rfl, ho2, hb2⟩
      have hb3 := below_mid hb hb2 hb.size
      have HI2 := Lib.hid ((HI.out).below hb3)
      have c8' := HI2.out.c8
      have f8' := HI2.out.f8
      have f7' := HI2.out.f7
      obtain ⟨v7, c7', _, _⟩ := HI2.out.c7
      have c8'' := (World.cell?_setCell_other w2 ⟨p7, 0, none⟩ ⟨p8, 0, none⟩ (.slice A2 n2 c2') (by intro e; injection e with e1; first | exact d5 e1 | exact d5 e1.symm)).trans c8'
      have f8'' := (World.frozen?_setCell w2 ⟨p7, 0, none⟩ ⟨p8, 0, none⟩ (.slice A2 n2 c2')).trans f8'
      go_wp2_with fail
      go_end0
      have hq := HC.out
      simp only [decide_eq_true_eq, decide_eq_false_iff_not] at hq
      refine ⟨rfl, ?_, ((Kp.of_below hb3).setCell (Or.inr rfl) _).setCell (Or.inl rfl) _⟩
      rw [HQ.out, if_pos (by omega)]
      refine HI2.out.put d1 d2 d3 d4 d5 (ho2.mono (Nat.le_trans hB0 hb.size)) (fun g hg => ?_) (by omega) (by omega)
      have q1 := (ho2.lt g hg).1
      have q2 := World.block_lt_of_cell? _ _ HI.out.c8
      obtain ⟨v0, q3, _, _⟩ := HI.out.c7
      have q3 := World.block_lt_of_cell? _ _ q3
      have q4 := hb.size
      constructor
      · have q2 : p7 < _ := q3; omega
      · have q2 : p8 < _ := q2; omega)

set_option maxHeartbeats 4000000 in
theorem LeastShifts1_no (B0 : Nat) (L : Option Addr) (n c p8 p2 p3 p7 : Nat) (_d1 : p2 ≠ p8) (_d2 : p2 ≠ p7) (_d3 : p3 ≠ p8) (_d4 : p3 ≠ p7) (_d5 : p7 ≠ p8) (xs : List Cu) (ok : CuOk xs) (h : Int) (st : List Int × Int) (s : List Int) (A : Option Addr) (m d : Nat) (w : World) (hB0 : B0 ≤ w.heap.size) (hI : IvL B0 L n c p8 p2 p3 p7 h st w) (hL : Sl w 4 e4 L n xs) (hs : Sl w 1 e1 A m s) (hm : m = n) (hsb : ShB xs s) (hcase : decide (st.2 < 0) = true ∧ decide (most (scL xs s) ≤ h) = false ∨ decide (st.2 < 0) = false ∧ decide (sumL s < st.2) = true ∧ decide (most (scL xs s) ≤ h) = false ∨ decide (st.2 < 0) = false ∧ decide (sumL s < st.2) = false) :
    Calls Try.prog 37 #[.slice A m d, .pointer (some ⟨p8, 0, none⟩), .pointer (some ⟨p2, 0, none⟩), .pointer (some ⟨p3, 0, none⟩), .pointer (some ⟨p7, 0, none⟩)] w fun e w' => e = .returned (.tuple #[]) ∧ IvL B0 L n c p8 p2 p3 p7 h (lsStep xs h st s) w' ∧ Kp (fun k => k = p8 ∨ k = p7) w w' := by
  obtain rfl : m = n := hm
  have okw : CuW (scL xs s) := zS_w ok hsb
  have hmb : 0 ≤ most (scL xs s) ∧ most (scL xs s) ≤ 24 := okw.mostK_bd _
  have hm6 : m ≤ 6 := by rw [← hL.1]; exact ok.len
  have hsum := sumL_le (hsb.bd ok)
  have hsl := hs.1
  have hl0 := hI.lo
  have hl1 := hI.hi
  have c8 : w.drew.cell? ⟨p8, 0, none⟩ = some (.int .i64 st.2) := hI.c8
  have c2 : w.drew.cell? ⟨p2, 0, none⟩ = some (.slice L m c) := hI.c2
  have c3 : w.drew.cell? ⟨p3, 0, none⟩ = some (.int .i64 h) := hI.c3
  have hb : Below w.heap.size w w.drew := (Below.refl _ _).drew
  have HL := Lib.hid hL.drew
  have HS := Lib.hid hs.drew
  have HS0 := Lib.hid hs
  have HI := Lib.hid hI
  have HQ : Hid (lsStep xs h st s = if (st.2 < 0 ∨ sumL s < st.2) ∧ most (scL xs s) ≤ h then (s, sumL s) else st) := rfl
  clear hI hL hs
  have HC := Lib.hid hcase
  rcases hcase with ⟨t1, t2⟩ | ⟨t1, t2, t3⟩ | ⟨t1, t2⟩
  all_goals
    go_enter Try.func37, Try.ntmps37
    go_wp2_with fail
    refine (sumOf_any A m d s _ HS0.out hm6 (hsb.bd ok)).mono ?_
    rintro e w1 ⟨rfl, rfl⟩
    go_wp2_with fail
    first | (go_region_with (first
      | (go_at_call 33; refine (shiftCues_any L m c xs A m d s _ HL.out ok HS.out rfl hsb.all).mono ?_; rintro e wa ⟨A3, n3, c3', rfl, ho, hbA⟩; replace c8 := (hbA.cell (World.block_lt_of_cell? _ _ c8)).trans c8; replace c2 := (hbA.cell (World.block_lt_of_cell? _ _ c2)).trans c2; replace c3 := (hbA.cell (World.block_lt_of_cell? _ _ c3)).trans c3; replace hb := below_mid hb hbA hb.size)
      | (go_at_call 30; refine (mostHands_any A3 n3 c3' _ _ (ho.sl e4_len) okw).mono ?_; rintro e wb ⟨rfl, hbB⟩; replace c8 := (hbB.cell (World.block_lt_of_cell? _ _ c8)).trans c8; replace c2 := (hbB.cell (World.block_lt_of_cell? _ _ c2)).trans c2; replace c3 := (hbB.cell (World.block_lt_of_cell? _ _ c3)).trans c3; replace hb := below_mid hb hbB hb.size))) | fail "region"
    all_goals go_wp2_with fail
    all_goals (
      go_end0
      have hq := HC.out
      simp only [decide_eq_true_eq, decide_eq_false_iff_not] at hq
      refine ⟨rfl, ?_, Kp.of_below hb⟩
      rw [HQ.out, if_neg (by omega)]
      exact (HI.out).below hb)

set_option maxHeartbeats 400000 in
theorem LeastShifts1_any (B0 : Nat) (L : Option Addr) (n c p8 p2 p3 p7 : Nat) (d1 : p2 ≠ p8) (d2 : p2 ≠ p7) (d3 : p3 ≠ p8) (d4 : p3 ≠ p7) (d5 : p7 ≠ p8) (xs : List Cu) (ok : CuOk xs) (h : Int) (st : List Int × Int) (s : List Int) (A : Option Addr) (m d : Nat) (w : World) (hB0 : B0 ≤ w.heap.size) (hI : IvL B0 L n c p8 p2 p3 p7 h st w) (hL : Sl w 4 e4 L n xs) (hs : Sl w 1 e1 A m s) (hm : m = n) (hsb : ShB xs s) :
    Calls Try.prog 37 #[.slice A m d, .pointer (some ⟨p8, 0, none⟩), .pointer (some ⟨p2, 0, none⟩), .pointer (some ⟨p3, 0, none⟩), .pointer (some ⟨p7, 0, none⟩)] w fun e w' => e = .returned (.tuple #[]) ∧ IvL B0 L n c p8 p2 p3 p7 h (lsStep xs h st s) w' ∧ Kp (fun k => k = p8 ∨ k = p7) w w' := by
  have hmb : 0 ≤ most (scL xs s) ∧ most (scL xs s) ≤ 24 := (show CuW (scL xs s) from zS_w ok hsb).mostK_bd _
  have hcase : (decide (st.2 < 0) = true ∧ decide (most (scL xs s) ≤ h) = true ∨ decide (st.2 < 0) = false ∧ decide (sumL s < st.2) = true ∧ decide (most (scL xs s) ≤ h) = true) ∨ (decide (st.2 < 0) = true ∧ decide (most (scL xs s) ≤ h) = false ∨ decide (st.2 < 0) = false ∧ decide (sumL s < st.2) = true ∧ decide (most (scL xs s) ≤ h) = false ∨ decide (st.2 < 0) = false ∧ decide (sumL s < st.2) = false) := by
    simp only [decide_eq_true_eq, decide_eq_false_iff_not]; omega
  rcases hcase with hcase | hcase
  · exact LeastShifts1_yes B0 L n c p8 p2 p3 p7 d1 d2 d3 d4 d5 xs ok h st s A m d w hB0 hI hL hs hm hsb hcase
  · exact LeastShifts1_no B0 L n c p8 p2 p3 p7 d1 d2 d3 d4 d5 xs ok h st s A m d w hB0 hI hL hs hm hsb hcase

end Go.Proofs.Ytnikpadclmjglaa
