/-
  Scripts: for how many ticks a slide is shown, both sides.
-/
import Derived.Test.YtcpbdikdghhblaaVb
import Derived.Test.YtcpbdikdghhblaaVt
namespace Go.Proofs.Ytcpbdikdghhblaa
open Go.RowKit

set_option maxHeartbeats 1600000 in
theorem specTicksShown_any (A : Option Addr) (n c : Nat) (ss : List ByteArray) (B : Option Addr) (m d : Nat) (xs : List AX) (s : ByteArray) (w : World) (h : Sl w 1 eS A n ss) (h2 : Sl w 4 eAct B m xs) (hn : n ≤ 1048577) (hm : m ≤ 1048577) (hz : ∀ s ∈ ss, s.size ≤ maxLen) :
    Calls Try.prog 20 #[.agg #[.slice A n c, .slice B m d], .string s] w fun e w' => e = .returned (.tuple #[.int .i64 (tkVal ss xs s), .int .i64 (tkCode ss xs s)]) ∧ Below w.heap.size w w' := by
  have hW := below_alloc w (.cells #[.slice A n c, .slice B m d] 29)
  have x0 : (w.alloc (.cells #[.slice A n c, .slice B m d] 29)).cell? ⟨w.heap.size, 0, none⟩ = some (.slice A n c) := by simp [go_sem]
  have x1 : (w.alloc (.cells #[.slice A n c, .slice B m d] 29)).cell? ⟨w.heap.size, 1, none⟩ = some (.slice B m d) := by simp [go_sem]
  cases qv : vScr ss xs
  · have HC : Hid (tkCode ss xs s = 1) := by rw [Hid, tkCode, if_pos qv]
    have HV : Hid (tkVal ss xs s = 0) := by rw [Hid, tkVal, if_neg (by rw [HC.out]; decide)]
    go_enter Try.func20, Try.ntmps20
    go_wp2_with fail
    generalize (w.alloc (.cells #[.slice A n c, .slice B m d] 29)) = W0 at hW x0 x1 ⊢
    refine (l18Ok_any w.heap.size A n c ss B m d xs _ x0 x1 (h.below hW) (h2.below hW) hn hm hz).mono ?_
    rintro e w2 ⟨rfl, hb2⟩
    replace x0 := (hb2.cell (World.block_lt_of_cell? _ _ x0)).trans x0
    replace x1 := (hb2.cell (World.block_lt_of_cell? _ _ x1)).trans x1
    replace hW := below_step hW hb2
    rw [qv]
    go_wp2_with fail
    go_ret2
    exact ⟨ret2 HV.out.symm HC.out.symm, hW⟩
  · have V := Lib.hid (vScr_true qv)
    have hm60 : m ≤ 60 := by have := okAc_len V.out.2; rw [h2.1] at this; exact this
    cases qh : hasB ss s
    · have HC : Hid (tkCode ss xs s = 3) := by rw [Hid, tkCode, if_neg (by rw [qv]; decide), if_pos qh]
      have HV : Hid (tkVal ss xs s = 0) := by rw [Hid, tkVal, if_neg (by rw [HC.out]; decide)]
      go_enter Try.func20, Try.ntmps20
      go_wp2_with fail
      generalize (w.alloc (.cells #[.slice A n c, .slice B m d] 29)) = W0 at hW x0 x1 ⊢
      refine (l18Ok_any w.heap.size A n c ss B m d xs _ x0 x1 (h.below hW) (h2.below hW) hn hm hz).mono ?_
      rintro e w2 ⟨rfl, hb2⟩
      replace x0 := (hb2.cell (World.block_lt_of_cell? _ _ x0)).trans x0
      replace x1 := (hb2.cell (World.block_lt_of_cell? _ _ x1)).trans x1
      replace hW := below_step hW hb2
      rw [qv]
      go_wp2_with fail
      refine (l18Has_any A n c ss s _ (h.below hW) hn).mono ?_
      rintro e w3 ⟨rfl, rfl⟩
      rw [qh]
      go_wp2_with fail
      go_ret2
      exact ⟨ret2 HV.out.symm HC.out.symm, hW⟩
    · cases qs : isSh xs s
      · have HC : Hid (tkCode ss xs s = 0) := by rw [Hid, tkCode, if_neg (by rw [qv]; decide), if_neg (by rw [qh]; decide), if_neg (by rw [qs]; decide)]
        have HV : Hid (tkVal ss xs s = (tkFs s xs).1) := by rw [Hid, tkVal, if_pos HC.out]
        have QS := Lib.hid qs
        have HA : Hid (hasB ss s = true) := qh
        go_enter Try.func20, Try.ntmps20
        go_wp2_with fail
        generalize (w.alloc (.cells #[.slice A n c, .slice B m d] 29)) = W0 at hW x0 x1 ⊢
        refine (l18Ok_any w.heap.size A n c ss B m d xs _ x0 x1 (h.below hW) (h2.below hW) hn hm hz).mono ?_
        rintro e w2 ⟨rfl, hb2⟩
        replace x0 := (hb2.cell (World.block_lt_of_cell? _ _ x0)).trans x0
        replace x1 := (hb2.cell (World.block_lt_of_cell? _ _ x1)).trans x1
        replace hW := below_step hW hb2
        rw [qv]
        go_wp2_with fail
        refine (l18Has_any A n c ss s _ (h.below hW) hn).mono ?_
        rintro e w3 ⟨rfl, rfl⟩
        rw [qh]
        go_wp2_with fail
        go_loopw [6, 7, 8] (fun a b i wr => ∃ k : Nat, ∃ q : Int × Int, k ≤ m ∧ i = .int .i64 k ∧ a = .int .i64 q.1 ∧ b = .int .i64 q.2 ∧ Hid (q = tkFs s (xs.take k)) ∧ Below w.heap.size w wr ∧ wr.cell? ⟨w.heap.size, 1, none⟩ = some (.slice B m d)) (fun _ _ i _ => m - (intOf i).toNat)
        case atStart => exact ⟨0, (0, -1), by omega, rfl, rfl, rfl, by rw [Hid]; rfl, hW, x1⟩
        case round =>
          obtain ⟨k, q, hk, rfl, rfl, rfl, hq, hb, x1⟩ := hrel
          have hbd := (tk_bd V.out.2 s k (by rw [h2.1]; exact hk)).1
          rw [← hq.out] at hbd
          obtain ⟨z1, z2, z3, z4⟩ := hbd
          by_cases hlt : k < m
          · obtain ⟨b, off, x, rfl, hx, hmm, d0, d1, d2, d3⟩ := (h2.below hb).atAct hlt
            have ht := okAc_tick V.out.2 hx
            have HS := Lib.hid (tkFs_step hx s)
            have hwd := Lib.hid (acCode_zero (V.out.2 k x hx)).1
            clear hx hmm
            have x1a := cell_al x1
            cases q1 : (x.2.2.1.toList == s.toList)
            · have HF : Hid (q = tkFs s (xs.take (k + 1))) := by rw [Hid, HS.out, tkF_other (by rw [str_eq] at q1; simpa using q1)]; exact hq
              go_wp2_with fail
              go_roundw
              case rel => exact ⟨k + 1, q, by omega, by go_num, rfl, rfl, HF, hb.alloc hb.size _, x1a _⟩
              case measure => simp [intOf]; omega
            · have heq : x.2.2.1 = s := by rw [str_eq] at q1; simpa using q1
              have HE := Lib.hid heq
              clear heq
              rcases wd_cases hwd.out with ⟨w1, w2, w3⟩ | ⟨w1, w2, w3⟩ | ⟨w1, w2, w3⟩
              · have HF : Hid ((q.1, x.1) = tkFs s (xs.take (k + 1))) := by rw [Hid, HS.out, tkF_show HE.out w1, ← hq.out]
                go_wp2_with fail
                go_roundw
                case rel => exact ⟨k + 1, (q.1, x.1), by omega, by go_num, rfl, rfl, HF, hb.alloc hb.size _, x1a _⟩
                case measure => simp [intOf]; omega
              · have HF : Hid ((q.1 + (x.1 - q.2), -1) = tkFs s (xs.take (k + 1))) := by rw [Hid, HS.out, tkF_hide HE.out w1 w2, ← hq.out]
                go_wp2_with fail
                go_roundw
                case rel => exact ⟨k + 1, (q.1 + (x.1 - q.2), -1), by omega, by go_num, by go_num, rfl, HF, hb.alloc hb.size _, x1a _⟩
                case measure => simp [intOf]; omega
              · have HF : Hid (q = tkFs s (xs.take (k + 1))) := by rw [Hid, HS.out, tkF_turn HE.out w1 w2]; exact hq
                go_wp2_with fail
                go_roundw
                case rel => exact ⟨k + 1, q, by omega, by go_num, rfl, rfl, HF, hb.alloc hb.size _, x1a _⟩
                case measure => simp [intOf]; omega
          · have : k = m := by omega
            subst this
            have hQ : Hid (q = tkFs s xs) := by rw [hq.out, List.take_of_length_le (by rw [h2.1]; exact Nat.le_refl _)]; rfl
            have hT := Lib.hid (tk_end V.out.2 s)
            have hlt0 : q.2 < 0 := by have := hT.out.2.2 QS.out; rw [← hQ.out] at this; omega
            go_wp2_with fail
            go_ret2
            exact ⟨ret2 (by rw [HV.out, hQ.out]) HC.out.symm, hb⟩
      · have HC : Hid (tkCode ss xs s = 6) := by rw [Hid, tkCode, if_neg (by rw [qv]; decide), if_neg (by rw [qh]; decide), if_pos qs]
        have HV : Hid (tkVal ss xs s = 0) := by rw [Hid, tkVal, if_neg (by rw [HC.out]; decide)]
        have QS := Lib.hid qs
        have HA : Hid (hasB ss s = true) := qh
        go_enter Try.func20, Try.ntmps20
        go_wp2_with fail
        generalize (w.alloc (.cells #[.slice A n c, .slice B m d] 29)) = W0 at hW x0 x1 ⊢
        refine (l18Ok_any w.heap.size A n c ss B m d xs _ x0 x1 (h.below hW) (h2.below hW) hn hm hz).mono ?_
        rintro e w2 ⟨rfl, hb2⟩
        replace x0 := (hb2.cell (World.block_lt_of_cell? _ _ x0)).trans x0
        replace x1 := (hb2.cell (World.block_lt_of_cell? _ _ x1)).trans x1
        replace hW := below_step hW hb2
        rw [qv]
        go_wp2_with fail
        refine (l18Has_any A n c ss s _ (h.below hW) hn).mono ?_
        rintro e w3 ⟨rfl, rfl⟩
        rw [qh]
        go_wp2_with fail
        go_loopw [6, 7, 8] (fun a b i wr => ∃ k : Nat, ∃ q : Int × Int, k ≤ m ∧ i = .int .i64 k ∧ a = .int .i64 q.1 ∧ b = .int .i64 q.2 ∧ Hid (q = tkFs s (xs.take k)) ∧ Below w.heap.size w wr ∧ wr.cell? ⟨w.heap.size, 1, none⟩ = some (.slice B m d)) (fun _ _ i _ => m - (intOf i).toNat)
        case atStart => exact ⟨0, (0, -1), by omega, rfl, rfl, rfl, by rw [Hid]; rfl, hW, x1⟩
        case round =>
          obtain ⟨k, q, hk, rfl, rfl, rfl, hq, hb, x1⟩ := hrel
          have hbd := (tk_bd V.out.2 s k (by rw [h2.1]; exact hk)).1
          rw [← hq.out] at hbd
          obtain ⟨z1, z2, z3, z4⟩ := hbd
          by_cases hlt : k < m
          · obtain ⟨b, off, x, rfl, hx, hmm, d0, d1, d2, d3⟩ := (h2.below hb).atAct hlt
            have ht := okAc_tick V.out.2 hx
            have HS := Lib.hid (tkFs_step hx s)
            have hwd := Lib.hid (acCode_zero (V.out.2 k x hx)).1
            clear hx hmm
            have x1a := cell_al x1
            cases q1 : (x.2.2.1.toList == s.toList)
            · have HF : Hid (q = tkFs s (xs.take (k + 1))) := by rw [Hid, HS.out, tkF_other (by rw [str_eq] at q1; simpa using q1)]; exact hq
              go_wp2_with fail
              go_roundw
              case rel => exact ⟨k + 1, q, by omega, by go_num, rfl, rfl, HF, hb.alloc hb.size _, x1a _⟩
              case measure => simp [intOf]; omega
            · have heq : x.2.2.1 = s := by rw [str_eq] at q1; simpa using q1
              have HE := Lib.hid heq
              clear heq
              rcases wd_cases hwd.out with ⟨w1, w2, w3⟩ | ⟨w1, w2, w3⟩ | ⟨w1, w2, w3⟩
              · have HF : Hid ((q.1, x.1) = tkFs s (xs.take (k + 1))) := by rw [Hid, HS.out, tkF_show HE.out w1, ← hq.out]
                go_wp2_with fail
                go_roundw
                case rel => exact ⟨k + 1, (q.1, x.1), by omega, by go_num, rfl, rfl, HF, hb.alloc hb.size _, x1a _⟩
                case measure => simp [intOf]; omega
              · have HF : Hid ((q.1 + (x.1 - q.2), -1) = tkFs s (xs.take (k + 1))) := by rw [Hid, HS.out, tkF_hide HE.out w1 w2, ← hq.out]
                go_wp2_with fail
                go_roundw
                case rel => exact ⟨k + 1, (q.1 + (x.1 - q.2), -1), by omega, by go_num, by go_num, rfl, HF, hb.alloc hb.size _, x1a _⟩
                case measure => simp [intOf]; omega
              · have HF : Hid (q = tkFs s (xs.take (k + 1))) := by rw [Hid, HS.out, tkF_turn HE.out w1 w2]; exact hq
                go_wp2_with fail
                go_roundw
                case rel => exact ⟨k + 1, q, by omega, by go_num, rfl, rfl, HF, hb.alloc hb.size _, x1a _⟩
                case measure => simp [intOf]; omega
          · have : k = m := by omega
            subst this
            have hQ : Hid (q = tkFs s xs) := by rw [hq.out, List.take_of_length_le (by rw [h2.1]; exact Nat.le_refl _)]; rfl
            have hT := Lib.hid (tk_end V.out.2 s)
            have hge : 0 ≤ q.2 := by have := hT.out.2.1 QS.out; rw [← hQ.out] at this; omega
            go_wp2_with fail
            go_ret2
            exact ⟨ret2 HV.out.symm HC.out.symm, hb⟩

set_option maxHeartbeats 1600000 in
theorem implTicksShown_any (A : Option Addr) (n c : Nat) (ss : List ByteArray) (B : Option Addr) (m d : Nat) (xs : List AX) (s : ByteArray) (w : World) (h : Sl w 1 eS A n ss) (h2 : Sl w 4 eAct B m xs) (hn : n ≤ 1048577) (hm : m ≤ 1048577) (hz : ∀ s ∈ ss, s.size ≤ maxLen) :
    Calls Try.prog 21 #[.agg #[.slice A n c, .slice B m d], .string s] w fun e w' => e = .returned (.tuple #[.int .i64 (tkVal ss xs s), .int .i64 (tkCode ss xs s)]) ∧ Below w.heap.size w w' := by
  have hW := below_alloc w (.cells #[.slice A n c, .slice B m d] 29)
  have x0 : (w.alloc (.cells #[.slice A n c, .slice B m d] 29)).cell? ⟨w.heap.size, 0, none⟩ = some (.slice A n c) := by simp [go_sem]
  have x1 : (w.alloc (.cells #[.slice A n c, .slice B m d] 29)).cell? ⟨w.heap.size, 1, none⟩ = some (.slice B m d) := by simp [go_sem]
  cases qv : vScr ss xs
  · have HC : Hid (tkCode ss xs s = 1) := by rw [Hid, tkCode, if_pos qv]
    have HV : Hid (tkVal ss xs s = 0) := by rw [Hid, tkVal, if_neg (by rw [HC.out]; decide)]
    go_enter Try.func21, Try.ntmps21
    go_wp2_with fail
    generalize (w.alloc (.cells #[.slice A n c, .slice B m d] 29)) = W0 at hW x0 x1 ⊢
    refine (implValidScript_any A n c ss B m d xs _ (h.below hW) (h2.below hW) hn hm hz).mono ?_
    rintro e w2 ⟨rfl, hb2⟩
    replace x0 := (hb2.cell (World.block_lt_of_cell? _ _ x0)).trans x0
    replace x1 := (hb2.cell (World.block_lt_of_cell? _ _ x1)).trans x1
    replace hW := below_step hW hb2
    rw [qv]
    go_wp2_with fail
    go_ret2
    exact ⟨ret2 HV.out.symm HC.out.symm, hW⟩
  · have V := Lib.hid (vScr_true qv)
    have hm60 : m ≤ 60 := by have := okAc_len V.out.2; rw [h2.1] at this; exact this
    cases qh : hasB ss s
    · have HC : Hid (tkCode ss xs s = 3) := by rw [Hid, tkCode, if_neg (by rw [qv]; decide), if_pos qh]
      have HV : Hid (tkVal ss xs s = 0) := by rw [Hid, tkVal, if_neg (by rw [HC.out]; decide)]
      go_enter Try.func21, Try.ntmps21
      go_wp2_with fail
      generalize (w.alloc (.cells #[.slice A n c, .slice B m d] 29)) = W0 at hW x0 x1 ⊢
      refine (implValidScript_any A n c ss B m d xs _ (h.below hW) (h2.below hW) hn hm hz).mono ?_
      rintro e w2 ⟨rfl, hb2⟩
      replace x0 := (hb2.cell (World.block_lt_of_cell? _ _ x0)).trans x0
      replace x1 := (hb2.cell (World.block_lt_of_cell? _ _ x1)).trans x1
      replace hW := below_step hW hb2
      rw [qv]
      go_wp2_with fail
      refine (hasSlide_any w.heap.size A n c ss s _ x0 (h.below hW) hn).mono ?_
      rintro e w3 ⟨rfl, rfl⟩
      rw [qh]
      go_wp2_with fail
      go_ret2
      exact ⟨ret2 HV.out.symm HC.out.symm, hW⟩
    · cases qs : isSh xs s
      · have HC : Hid (tkCode ss xs s = 0) := by rw [Hid, tkCode, if_neg (by rw [qv]; decide), if_neg (by rw [qh]; decide), if_neg (by rw [qs]; decide)]
        have HV : Hid (tkVal ss xs s = (tkFs s xs).1) := by rw [Hid, tkVal, if_pos HC.out]
        have QS := Lib.hid qs
        have HA : Hid (hasB ss s = true) := qh
        go_enter Try.func21, Try.ntmps21
        go_wp2_with fail
        generalize (w.alloc (.cells #[.slice A n c, .slice B m d] 29)) = W0 at hW x0 x1 ⊢
        refine (implValidScript_any A n c ss B m d xs _ (h.below hW) (h2.below hW) hn hm hz).mono ?_
        rintro e w2 ⟨rfl, hb2⟩
        replace x0 := (hb2.cell (World.block_lt_of_cell? _ _ x0)).trans x0
        replace x1 := (hb2.cell (World.block_lt_of_cell? _ _ x1)).trans x1
        replace hW := below_step hW hb2
        rw [qv]
        go_wp2_with fail
        refine (hasSlide_any w.heap.size A n c ss s _ x0 (h.below hW) hn).mono ?_
        rintro e w3 ⟨rfl, rfl⟩
        rw [qh]
        go_wp2_with fail
        refine (isShown_any B m d xs s _ (h2.below hW) hm).mono ?_
        rintro e w4 ⟨rfl, rfl⟩
        rw [qs]
        clear qs
        go_wp2_with fail
        go_loopw [6, 7, 26] (fun a b i wr => ∃ k : Nat, ∃ q : Int × Int, k ≤ m ∧ i = .int .i64 k ∧ a = .int .i64 q.1 ∧ b = .int .i64 q.2 ∧ Hid (q = tkGs s (xs.take k)) ∧ Below w.heap.size w wr ∧ wr.cell? ⟨w.heap.size, 1, none⟩ = some (.slice B m d)) (fun _ _ i _ => m - (intOf i).toNat)
        case atStart => exact ⟨0, (0, 0), by omega, rfl, rfl, rfl, by rw [Hid]; rfl, hW, x1⟩
        case round =>
          obtain ⟨k, q, hk, rfl, rfl, rfl, hq, hb, x1⟩ := hrel
          have hbd := (tk_bd V.out.2 s k (by rw [h2.1]; exact hk)).2
          rw [← hq.out] at hbd
          obtain ⟨z1, z2, z3, z4⟩ := hbd
          by_cases hlt : k < m
          · obtain ⟨b, off, x, rfl, hx, hmm, d0, d1, d2, d3⟩ := (h2.below hb).atAct hlt
            have ht := okAc_tick V.out.2 hx
            have HS := Lib.hid (tkGs_step hx s)
            have hwd := Lib.hid (acCode_zero (V.out.2 k x hx)).1
            clear hx hmm
            have x1a := cell_al x1
            cases q1 : (x.2.2.1.toList == s.toList)
            · have HF : Hid (q = tkGs s (xs.take (k + 1))) := by rw [Hid, HS.out, tkG_other (by rw [str_eq] at q1; simpa using q1)]; exact hq
              go_wp2_with fail
              go_roundw
              case rel => exact ⟨k + 1, q, by omega, by go_num, rfl, rfl, HF, hb.alloc hb.size _, x1a _⟩
              case measure => simp [intOf]; omega
            · have heq : x.2.2.1 = s := by rw [str_eq] at q1; simpa using q1
              have HE := Lib.hid heq
              clear heq
              rcases wd_cases hwd.out with ⟨w1, w2, w3⟩ | ⟨w1, w2, w3⟩ | ⟨w1, w2, w3⟩
              · have HF : Hid ((q.1, x.1) = tkGs s (xs.take (k + 1))) := by rw [Hid, HS.out, tkG_show HE.out w1, ← hq.out]
                go_wp2_with fail
                go_roundw
                case rel => exact ⟨k + 1, (q.1, x.1), by omega, by go_num, rfl, rfl, HF, hb.alloc hb.size _, x1a _⟩
                case measure => simp [intOf]; omega
              · have HF : Hid ((q.1 + (x.1 - q.2), q.2) = tkGs s (xs.take (k + 1))) := by rw [Hid, HS.out, tkG_hide HE.out w1 w2, ← hq.out]
                go_wp2_with fail
                go_roundw
                case rel => exact ⟨k + 1, (q.1 + (x.1 - q.2), q.2), by omega, by go_num, by go_num, rfl, HF, hb.alloc hb.size _, x1a _⟩
                case measure => simp [intOf]; omega
              · have HF : Hid (q = tkGs s (xs.take (k + 1))) := by rw [Hid, HS.out, tkG_turn HE.out w1 w2]; exact hq
                go_wp2_with fail
                go_roundw
                case rel => exact ⟨k + 1, q, by omega, by go_num, rfl, rfl, HF, hb.alloc hb.size _, x1a _⟩
                case measure => simp [intOf]; omega
          · have : k = m := by omega
            subst this
            have hQ : Hid (q = tkGs s xs) := by rw [hq.out, List.take_of_length_le (by rw [h2.1]; exact Nat.le_refl _)]; rfl
            have hT := Lib.hid (tk_end V.out.2 s)
            go_wp2_with fail
            go_ret2
            exact ⟨ret2 (by rw [HV.out, hT.out.1, hQ.out]) HC.out.symm, hb⟩
      · have HC : Hid (tkCode ss xs s = 6) := by rw [Hid, tkCode, if_neg (by rw [qv]; decide), if_neg (by rw [qh]; decide), if_pos qs]
        have HV : Hid (tkVal ss xs s = 0) := by rw [Hid, tkVal, if_neg (by rw [HC.out]; decide)]
        have QS := Lib.hid qs
        have HA : Hid (hasB ss s = true) := qh
        go_enter Try.func21, Try.ntmps21
        go_wp2_with fail
        generalize (w.alloc (.cells #[.slice A n c, .slice B m d] 29)) = W0 at hW x0 x1 ⊢
        refine (implValidScript_any A n c ss B m d xs _ (h.below hW) (h2.below hW) hn hm hz).mono ?_
        rintro e w2 ⟨rfl, hb2⟩
        replace x0 := (hb2.cell (World.block_lt_of_cell? _ _ x0)).trans x0
        replace x1 := (hb2.cell (World.block_lt_of_cell? _ _ x1)).trans x1
        replace hW := below_step hW hb2
        rw [qv]
        go_wp2_with fail
        refine (hasSlide_any w.heap.size A n c ss s _ x0 (h.below hW) hn).mono ?_
        rintro e w3 ⟨rfl, rfl⟩
        rw [qh]
        go_wp2_with fail
        refine (isShown_any B m d xs s _ (h2.below hW) hm).mono ?_
        rintro e w4 ⟨rfl, rfl⟩
        rw [qs]
        clear qs
        go_wp2_with fail
        go_ret2
        exact ⟨ret2 HV.out.symm HC.out.symm, hW⟩

end Go.Proofs.Ytcpbdikdghhblaa
