/-
  Contracts of the functions on pieces: the beat at a place.
-/
import Derived.Test.YtfgghdlkhajjhaaMuC
import Derived.Deep.RegionHeld3
namespace Go.Proofs.Ytfgghdlkhajjhaa
open Go.RowKit

def bpCode (xs : List (Int × Int × Int)) (p b e : Int) : Int :=
  if ptOk xs then (if inB p 0 (xs.length - 1) then (match xs[p.toNat]? with | some x => if inB b 0 (x.1 - 1) && inB e 0 (x.2.1 - 1) then 0 else 2 | none => 2) else 2) else 1
def bpVal (xs : List (Int × Int × Int)) (p b e : Int) : Int := if bpCode xs p b e = 0 then (match xs[p.toNat]? with | some x => btK xs p.toNat + b * x.2.1 + e | none => 0) else 0
theorem bpCode_at {xs : List (Int × Int × Int)} {k : Nat} {b e : Int} {x : Int × Int × Int} (hok : ptOk xs = true) (hx : xs[k]? = some x) : bpCode xs k b e = if inB b 0 (x.1 - 1) && inB e 0 (x.2.1 - 1) then 0 else 2 := by
  have hk := (List.getElem?_eq_some_iff.1 hx).1
  rw [bpCode, if_pos hok, if_pos (by rw [inB_true]; omega)]; simp [hx]
theorem bpVal_at {xs : List (Int × Int × Int)} {k : Nat} {b e : Int} {x : Int × Int × Int} (h : bpCode xs k b e = 0) (hx : xs[k]? = some x) : bpVal xs k b e = btK xs k + b * x.2.1 + e := by
  rw [bpVal, if_pos h]; simp [hx]
theorem bpVal_no {xs : List (Int × Int × Int)} {p b e : Int} (h : ¬ bpCode xs p b e = 0) : bpVal xs p b e = 0 := by rw [bpVal, if_neg h]
theorem bp_bd {b y : Int} {x : Int} (h : 0 ≤ b ∧ b ≤ x - 1) (h2 : 1 ≤ x ∧ x ≤ 200) (h3 : 1 ≤ y ∧ y ≤ 12) : 0 ≤ b * y ∧ b * y ≤ 2400 := by
  have a1 : 0 ≤ b * y := Int.mul_nonneg (by omega) (by omega)
  have a2 : b * y ≤ 200 * 12 := Int.mul_le_mul (by omega) (by omega) (by omega) (by omega)
  omega
theorem l19Beats_q (A : Option Addr) (n c : Nat) (xs : List (Int × Int × Int)) (w : World) (h : Sl w 3 e3 A n xs) (ok : PtB xs) :
    Calls Try.prog 48 #[.slice A n c] w fun e w' => e = .returned (.int .i64 (btI xs)) ∧ ∃ m, w' = w.drewN m := by
  have hl := ok.1
  have hl2 := h.1
  go_enter Try.func48, Try.ntmps48
  go_wp2
  go_loopw [3, 4] (fun s i wr => ∃ k j : Nat, k ≤ n ∧ i = .int .i64 k ∧ s = .int .i64 (btK xs k) ∧ Hid (wr = w.drewN j)) (fun _ i _ => n - (intOf i).toNat)
  case atStart => exact ⟨0, 0, by omega, rfl, rfl, rfl⟩
  case round =>
    obtain ⟨k, j, hk, rfl, rfl, hw⟩ := hrel
    by_cases hlt : k < n
    · have hs : Sl wr 3 e3 A n xs := by rw [hw.out]; exact h.drewN _
      obtain ⟨b, off, x, rfl, hx, hm, c0, c1, c2⟩ := hs.at3 hlt
      have HS := Lib.hid (btK_step hx)
      have q0 := ok.btK_bd k
      have q1 := bF_bd (ok.2 x hm)
      have r1 : IntKind.i64.wrap (x.1 * x.2.1) = x.1 * x.2.1 := wr64 (by omega)
      have r2 : IntKind.i64.wrap (btK xs k + x.1 * x.2.1) = btK xs k + x.1 * x.2.1 := wr64 (by omega)
      go_wp2_with fail
      go_quiet (fail)
      clear r1 r2
      go_wp2_with fail
      go_roundw
      case rel => exact ⟨k + 1, j + nq, by omega, by go_num, by rw [HS.out], by rw [Hid, hw.out, World.drewN_drewN]⟩
      case measure => simp [intOf]; omega
    · have : k = n := by omega
      subst this
      have HE := Lib.hid (btK_len xs)
      have HL := Lib.hid h.1
      go_wp2_with fail
      go_ret
      exact ⟨ret_int (by rw [← HL.out, HE.out]), j, hw.out⟩
theorem btK_take (xs : List (Int × Int × Int)) (k : Nat) : btI (xs.take k) = btK xs k := rfl

set_option maxHeartbeats 400000 in
theorem specBeatOfPlace_any (A : Option Addr) (n c : Nat) (xs : List (Int × Int × Int)) (p b e : Int) (w : World) (h : Sl w 3 e3 A n xs) (hn : n ≤ 1048577) (hcap : n ≤ c) (_hp : In64 p) (_hb : In64 b) (_he : In64 e) :
    Calls Try.prog 22 #[.slice A n c, .int .i64 p, .int .i64 b, .int .i64 e] w fun r w' => r = .returned (.tuple #[.int .i64 (bpVal xs p b e), .int .i64 (bpCode xs p b e)]) ∧ Below w.heap.size w w' := by
  cases hok : ptOk xs
  · have H1 : Hid (bpCode xs p b e = 1) := by rw [Hid, bpCode, hok]; rfl
    go_enter Try.func22, Try.ntmps22
    go_wp2_with fail
    refine (l19Ok_any _ n c xs _ h hn).mono ?_
    rintro e w2 ⟨rfl, rfl⟩
    have hb0 := Below.refl w.heap.size w
    go_wp2_with fail
    go_ret2
    exact ⟨ret2 (by rw [bpVal_no (by rw [H1.out]; decide)]) H1.out.symm, hb0⟩
  have ok := ptOk_iff.1 hok
  have hl := ok.len
  have hl2 := h.1
  cases hin : inB p 0 ((n : Int) - 1)
  · have H1 : Hid (bpCode xs p b e = 2) := by rw [Hid, bpCode, hok, hl2, hin]; rfl
    go_enter Try.func22, Try.ntmps22
    go_wp2_with fail
    refine (l19Ok_any _ n c xs _ h hn).mono ?_
    rintro e w2 ⟨rfl, rfl⟩
    have hb0 := Below.refl w.heap.size w
    go_wp2_with (go_at_call 41; refine (l00In_any _ _ _ _).mono ?_; rintro e w' ⟨rfl, rfl⟩)
    go_ret2
    exact ⟨ret2 (by rw [bpVal_no (by rw [H1.out]; decide)]) H1.out.symm, hb0⟩
  · have hpi := inB_true.1 hin
    obtain ⟨k, rfl⟩ := Int.eq_ofNat_of_zero_le hpi.1
    have hlt : k < n := by omega
    obtain ⟨bb, off, x, rfl, hx, hm, c0, c1, c2⟩ := h.at3 hlt
    have hx1 := ok.one x hm
    have HC := Lib.hid (bpCode_at (b := b) (e := e) hok hx)
    cases q1 : inB b 0 (x.1 - 1)
    · have H1 : Hid (bpCode xs k b e = 2) := by rw [Hid, HC.out, q1]; rfl
      go_enter Try.func22, Try.ntmps22
      go_wp2_with fail
      refine (l19Ok_any _ n c xs _ h hn).mono ?_
      rintro e w2 ⟨rfl, rfl⟩
      have hb0 := Below.refl w.heap.size w
      skip
      go_wp2_with (go_at_call 41; refine (l00In_any _ _ _ _).mono ?_; rintro e w' ⟨rfl, rfl⟩)
      go_ret2
      exact ⟨ret2 (by rw [bpVal_no (by rw [H1.out]; decide)]) H1.out.symm, below_alloc _ _⟩
    · cases q2 : inB e 0 (x.2.1 - 1)
      · have H1 : Hid (bpCode xs k b e = 2) := by rw [Hid, HC.out, q1, q2]; rfl
        go_enter Try.func22, Try.ntmps22
        go_wp2_with fail
        refine (l19Ok_any _ n c xs _ h hn).mono ?_
        rintro e w2 ⟨rfl, rfl⟩
        have hb0 := Below.refl w.heap.size w
        skip
        go_wp2_with (go_at_call 41; refine (l00In_any _ _ _ _).mono ?_; rintro e w' ⟨rfl, rfl⟩)
        go_ret2
        exact ⟨ret2 (by rw [bpVal_no (by rw [H1.out]; decide)]) H1.out.symm, below_alloc _ _⟩
      · have H1 : Hid (bpCode xs k b e = 0) := by rw [Hid, HC.out, q1, q2]; rfl
        have H2 : Hid (bpVal xs k b e = btK xs k + b * x.2.1 + e) := bpVal_at H1.out hx
        have b1 := inB_true.1 q1
        have b2 := inB_true.1 q2
        have bb1 := bp_bd b1 (by omega) (show 1 ≤ x.2.1 ∧ x.2.1 ≤ 12 by omega)
        have bk := ok.b.btK_bd k
        have HT : Hid (btI (xs.take k) = btK xs k) := rfl
        have g1 : (0 : Int) ≤ (k : Int) := by omega
        have g2 : (k : Int) ≤ (n : Int) := by omega
        have g3 : (k : Int) < (n : Int) := by omega
        have g4 : (k : Int) ≤ (c : Int) := by omega
        have g5 : k ≤ c := by omega
        have r1 : IntKind.i64.wrap (b * x.2.1) = b * x.2.1 := wr64 (by omega)
        have r2 : IntKind.i64.wrap (btI (xs.take k) + b * x.2.1) = btK xs k + b * x.2.1 := by rw [HT.out]; exact wr64 (by omega)
        have r3 : IntKind.i64.wrap (btK xs k + b * x.2.1 + e) = btK xs k + b * x.2.1 + e := wr64 (by omega)
        go_enter Try.func22, Try.ntmps22
        go_wp2_with fail
        refine (l19Ok_any _ n c xs _ h hn).mono ?_
        rintro e w2 ⟨rfl, rfl⟩
        have hb0 := Below.refl w.heap.size w
        skip
        go_wp2_with (go_at_call 41; refine (l00In_any _ _ _ _).mono ?_; rintro e w' ⟨rfl, rfl⟩)
        have hown := hb0

        generalize hW : w.alloc (.cells #[.int .i64 x.1, .int .i64 x.2.1, .int .i64 x.2.2] 26) = w5
        have hb5 : Below w.heap.size w w5 := by rw [← hW]; exact below_alloc _ _
        have hs5 : Sl w5 3 e3 (some ⟨bb, off, none⟩) k (xs.take k) := by rw [← hW]; exact ((h.take (Nat.le_of_lt hlt)).alloc _)
        have d1 : w5.cell? ⟨w.heap.size, 1, none⟩ = some (.int .i64 x.2.1) := by rw [← hW]; simp [go_sem]
        clear hW
        go_quiet ((go_at_call 48; exact Calls.quiet_of (l19Beats_q _ k c (xs.take k) _ (hs5.drewN _) (ok.b.take k))))
        clear r1 r2 r3
        go_wp2_with fail
        go_ret2
        exact ⟨ret2 H2.out.symm H1.out.symm, below_drewN hb5 _⟩

set_option maxHeartbeats 400000 in
theorem implBeatOfPlace_any (A : Option Addr) (n c : Nat) (xs : List (Int × Int × Int)) (p b e : Int) (w : World) (h : Sl w 3 e3 A n xs) (hn : n ≤ 1048577) (hcap : n ≤ c) (_hp : In64 p) (_hb : In64 b) (_he : In64 e) :
    Calls Try.prog 23 #[.slice A n c, .int .i64 p, .int .i64 b, .int .i64 e] w fun r w' => r = .returned (.tuple #[.int .i64 (bpVal xs p b e), .int .i64 (bpCode xs p b e)]) ∧ Below w.heap.size w w' := by
  cases hok : ptOk xs
  · have H1 : Hid (bpCode xs p b e = 1) := by rw [Hid, bpCode, hok]; rfl
    go_enter Try.func23, Try.ntmps23
    go_wp2_with fail
    refine (implValidPiece_any _ n c xs _ h hn).mono ?_
    rintro e w2 ⟨rfl, hb0⟩
    go_wp2_with fail
    go_ret2
    exact ⟨ret2 (by rw [bpVal_no (by rw [H1.out]; decide)]) H1.out.symm, hb0⟩
  have ok := ptOk_iff.1 hok
  have hl := ok.len
  have hl2 := h.1
  cases hin : inB p 0 ((n : Int) - 1)
  · have H1 : Hid (bpCode xs p b e = 2) := by rw [Hid, bpCode, hok, hl2, hin]; rfl
    go_enter Try.func23, Try.ntmps23
    go_wp2_with fail
    refine (implValidPiece_any _ n c xs _ h hn).mono ?_
    rintro e w2 ⟨rfl, hb0⟩
    go_wp2_with (go_at_call 43; refine (within_any _ _ _ _).mono ?_; rintro e w' ⟨rfl, rfl⟩)
    go_ret2
    exact ⟨ret2 (by rw [bpVal_no (by rw [H1.out]; decide)]) H1.out.symm, hb0⟩
  · have hpi := inB_true.1 hin
    obtain ⟨k, rfl⟩ := Int.eq_ofNat_of_zero_le hpi.1
    have hlt : k < n := by omega
    obtain ⟨bb, off, x, rfl, hx, hm, c0, c1, c2⟩ := h.at3 hlt
    have hx1 := ok.one x hm
    have HC := Lib.hid (bpCode_at (b := b) (e := e) hok hx)
    cases q1 : inB b 0 (x.1 - 1)
    · have H1 : Hid (bpCode xs k b e = 2) := by rw [Hid, HC.out, q1]; rfl
      go_enter Try.func23, Try.ntmps23
      go_wp2_with fail
      refine (implValidPiece_any _ n c xs _ h hn).mono ?_
      rintro e w2 ⟨rfl, hb0⟩
      obtain ⟨d0, d1, d2⟩ := (h.below hb0).get3 hx
      go_wp2_with (go_at_call 43; refine (within_any _ _ _ _).mono ?_; rintro e w' ⟨rfl, rfl⟩)
      go_ret2
      exact ⟨ret2 (by rw [bpVal_no (by rw [H1.out]; decide)]) H1.out.symm, hb0⟩
    · cases q2 : inB e 0 (x.2.1 - 1)
      · have H1 : Hid (bpCode xs k b e = 2) := by rw [Hid, HC.out, q1, q2]; rfl
        go_enter Try.func23, Try.ntmps23
        go_wp2_with fail
        refine (implValidPiece_any _ n c xs _ h hn).mono ?_
        rintro e w2 ⟨rfl, hb0⟩
        obtain ⟨d0, d1, d2⟩ := (h.below hb0).get3 hx
        go_wp2_with (go_at_call 43; refine (within_any _ _ _ _).mono ?_; rintro e w' ⟨rfl, rfl⟩)
        go_ret2
        exact ⟨ret2 (by rw [bpVal_no (by rw [H1.out]; decide)]) H1.out.symm, hb0⟩
      · have H1 : Hid (bpCode xs k b e = 0) := by rw [Hid, HC.out, q1, q2]; rfl
        have H2 : Hid (bpVal xs k b e = btK xs k + b * x.2.1 + e) := bpVal_at H1.out hx
        have b1 := inB_true.1 q1
        have b2 := inB_true.1 q2
        have bb1 := bp_bd b1 (by omega) (show 1 ≤ x.2.1 ∧ x.2.1 ≤ 12 by omega)
        have bk := ok.b.btK_bd k
        have HT : Hid (btI (xs.take k) = btK xs k) := rfl
        have g1 : (0 : Int) ≤ (k : Int) := by omega
        have g2 : (k : Int) ≤ (n : Int) := by omega
        have g3 : (k : Int) < (n : Int) := by omega
        have g4 : (k : Int) ≤ (c : Int) := by omega
        have g5 : k ≤ c := by omega
        have r1 : IntKind.i64.wrap (b * x.2.1) = b * x.2.1 := wr64 (by omega)
        have r2 : IntKind.i64.wrap (btI (xs.take k) + b * x.2.1) = btK xs k + b * x.2.1 := by rw [HT.out]; exact wr64 (by omega)
        have r3 : IntKind.i64.wrap (btK xs k + b * x.2.1 + e) = btK xs k + b * x.2.1 + e := wr64 (by omega)
        go_enter Try.func23, Try.ntmps23
        go_wp2_with fail
        refine (implValidPiece_any _ n c xs _ h hn).mono ?_
        rintro e w2 ⟨rfl, hb0⟩
        obtain ⟨d0, d1, d2⟩ := (h.below hb0).get3 hx
        go_wp2_with (go_at_call 43; refine (within_any _ _ _ _).mono ?_; rintro e w' ⟨rfl, rfl⟩)
        have hs0 := h.take (Nat.le_of_lt hlt)
        go_region_held3 (fun w' => Below w.heap.size w w' ∧ w'.cell? ⟨bb, off + k * 3 + 1, none⟩ = some (.int .i64 x.2.1))
          (first
            | exact ⟨hb0.drew, d1⟩
            | (obtain ⟨hq1, hq2⟩ := (show Below w.heap.size w _ ∧ World.cell? _ ⟨bb, off + k * 3 + 1, none⟩ = some (.int .i64 x.2.1) from by assumption)
               exact ⟨below_mid hq1 hb3 hq1.size, (hb3.cell (World.block_lt_of_cell? _ _ hq2)).trans hq2⟩)
            | trace_state)
          ((go_at_call 49; refine (beatsOf_any _ k c (xs.take k) _ (hs0.below (show Below w.heap.size w _ ∧ World.cell? _ ⟨bb, off + k * 3 + 1, none⟩ = some (.int .i64 x.2.1) from by assumption).1) (ok.b.take k)).mono ?_; rintro r w3 ⟨rfl, hb3⟩))
        clear r1 r2 r3
        have hq := (show Below w.heap.size w _ ∧ World.cell? _ ⟨bb, off + k * 3 + 1, none⟩ = some (.int .i64 x.2.1) from by assumption)
        go_wp2_with fail
        go_ret2
        exact ⟨ret2 H2.out.symm H1.out.symm, hq.1⟩

end Go.Proofs.Ytfgghdlkhajjhaa
