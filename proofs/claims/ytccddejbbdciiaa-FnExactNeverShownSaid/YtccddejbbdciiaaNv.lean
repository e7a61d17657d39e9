/-
  Scripts: what is never shown, both sides.
-/
import Derived.Test.YtccddejbbdciiaaVb
import Derived.Test.YtccddejbbdciiaaVw
namespace Go.Proofs.Ytccddejbbdciiaa
open Go.RowKit

theorem shB_of {x : AX} {q : Bool} (h : (x.2.1.toList == [115, 104, 111, 119]) = q) : shB x = q := h
theorem NeverShown1_any (x : AX) (s : ByteArray) (g : Nat) (w : World) (c0 : w.cell? ⟨g, 0, none⟩ = some (.string s)) :
    Calls Try.prog 34 #[.agg #[.int .i64 x.1, .string x.2.1, .string x.2.2.1, .int .i64 x.2.2.2], .pointer (some ⟨g, 0, none⟩)] w fun e w' => e = .returned (.bool (shB x && (x.2.2.1.toList == s.toList))) ∧ Below w.heap.size w w' := by
  have hb := below_alloc w (.cells #[.int .i64 x.1, .string x.2.1, .string x.2.2.1, .int .i64 x.2.2.2] 47)
  have c1 := cell_al c0
  cases q1 : (x.2.2.1.toList == s.toList)
  · go_enter Try.func34, Try.ntmps34
    go_wp2_with fail
    go_ret
    exact ⟨ret_bool (by first | rfl | rw [Bool.and_false]), hb⟩
  · cases q2 : (x.2.1.toList == [115, 104, 111, 119])
    all_goals
      go_enter Try.func34, Try.ntmps34
      go_wp2_with fail
      go_ret
      exact ⟨ret_bool (by rw [shB_of q2]; rfl), hb⟩

theorem IndexFuncAct_any (s : ByteArray) (g : Nat) (A : Option Addr) (n c : Nat) (xs : List AX) (w : World) (h : Sl w 4 eAct A n xs) (hn : n ≤ 1048577) (c0 : w.cell? ⟨g, 0, none⟩ = some (.string s)) :
    Calls Try.prog 46 #[.slice A n c, .func (.func 34) #[] #[.pointer (some ⟨g, 0, none⟩)]] w fun e w' => (∃ k : Int, e = .returned (.int .i64 k) ∧ Hid (evB xs s = decide (0 ≤ k))) ∧ Below w.heap.size w w' := by
  go_enter Try.func46, Try.ntmps46
  go_wp2
  go_loopw [8] (fun i wr => ∃ k : Nat, k ≤ n ∧ i = .int .i64 k ∧ Hid (evB (xs.take k) s = false) ∧ Below w.heap.size w wr) (fun i _ => n - (intOf i).toNat)
  case atStart => exact ⟨0, by omega, rfl, rfl, Below.refl _ _⟩
  case round =>
    obtain ⟨k, hk, rfl, he, hb⟩ := hrel
    by_cases hlt : k < n
    · obtain ⟨b, off, x, rfl, hx, _, d0, d1, d2, d3⟩ := (h.below hb).atAct hlt
      have HX := Lib.hid hx
      clear hx
      have c1 := (hb.cell (World.block_lt_of_cell? _ _ c0)).trans c0
      cases q : (shB x && (x.2.2.1.toList == s.toList))
      · go_wp2_with fail
        refine (NeverShown1_any x s g _ c1).mono ?_
        rintro e w2 ⟨rfl, hb2⟩
        rw [q]
        go_wp2_with fail
        go_roundw
        case rel => exact ⟨k + 1, by omega, by go_num, by rw [Hid, evB_step HX.out, he.out, q]; rfl, below_mid hb hb2 hb.size⟩
        case measure => simp [intOf]; omega
      · go_wp2_with fail
        refine (NeverShown1_any x s g _ c1).mono ?_
        rintro e w2 ⟨rfl, hb2⟩
        rw [q]
        go_wp2_with fail
        go_ret
        exact ⟨⟨_, rfl, by rw [Hid, evB_at HX.out q]; simp⟩, below_mid hb hb2 hb.size⟩
    · have : k = n := by omega
      subst this
      have HN : Hid (evB xs s = false) := by rw [Hid, ← he.out, List.take_of_length_le (by rw [h.1]; exact Nat.le_refl _)]
      go_wp2
      go_ret
      exact ⟨⟨_, rfl, by rw [Hid, HN.out]; simp⟩, hb⟩

theorem ContainsFuncAct_any (s : ByteArray) (g : Nat) (A : Option Addr) (n c : Nat) (xs : List AX) (w : World) (h : Sl w 4 eAct A n xs) (hn : n ≤ 1048577) (c0 : w.cell? ⟨g, 0, none⟩ = some (.string s)) :
    Calls Try.prog 33 #[.slice A n c, .func (.func 34) #[] #[.pointer (some ⟨g, 0, none⟩)]] w fun e w' => e = .returned (.bool (evB xs s)) ∧ Below w.heap.size w w' := by
  go_enter Try.func33, Try.ntmps33
  go_wp2_with fail
  refine (IndexFuncAct_any s g A n c xs _ h hn c0).mono ?_
  rintro e w2 ⟨⟨k, rfl, HK⟩, hb2⟩
  go_wp2_with fail
  go_ret
  exact ⟨ret_bool (by rw [HK.out]), hb2⟩

set_option maxHeartbeats 3200000 in
theorem specNeverShown_any (A : Option Addr) (n c : Nat) (ss : List ByteArray) (gb m : Nat) (xs : List AX) (w : World) (h : Sl w 1 eS A n ss) (h2 : Sl w 4 eAct (some ⟨gb, 0, none⟩) m xs) (hn : n ≤ 1048577) (hm : m ≤ 1048577) (hz : ∀ s ∈ ss, s.size ≤ maxLen) :
    Calls Try.prog 15 #[.agg #[.slice A n c, .slice (some ⟨gb, 0, none⟩) m m]] w fun e w' => RetOwnC 9 1 eS (nvVal ss xs) (nvCode ss xs) w e w' := by
  obtain ⟨i0, hi0, hz0, hz1, hz2⟩ := info_parts infoStr
  have hW := below_alloc w (.cells #[.slice A n c, .slice (some ⟨gb, 0, none⟩) m m] 31)
  have x0 : (w.alloc (.cells #[.slice A n c, .slice (some ⟨gb, 0, none⟩) m m] 31)).cell? ⟨w.heap.size, 0, none⟩ = some (.slice A n c) := by simp [go_sem]
  have x1 : (w.alloc (.cells #[.slice A n c, .slice (some ⟨gb, 0, none⟩) m m] 31)).cell? ⟨w.heap.size, 1, none⟩ = some (.slice (some ⟨gb, 0, none⟩) m m) := by simp [go_sem]
  cases qv : vScr ss xs
  · have HC : Hid (nvCode ss xs = 1) := by rw [Hid, nvCode, if_pos qv]
    have HV : Hid (nvVal ss xs = []) := by rw [Hid, nvVal, if_neg (by rw [HC.out]; decide)]
    go_enter Try.func15, Try.ntmps15
    go_wp2_with fail
    generalize (w.alloc (.cells #[.slice A n c, .slice (some ⟨gb, 0, none⟩) m m] 31)) = W0 at hW x0 x1 ⊢
    refine (l18Ok_any w.heap.size A n c ss _ m m xs _ x0 x1 (h.below hW) (h2.below hW) hn hm hz).mono ?_
    rintro e w2 ⟨rfl, hb2⟩
    replace x0 := (hb2.cell (World.block_lt_of_cell? _ _ x0)).trans x0
    replace x1 := (hb2.cell (World.block_lt_of_cell? _ _ x1)).trans x1
    replace hW := below_step hW hb2
    clear hb2
    rw [qv]
    have x0a := cell_al x0
    have x1a := cell_al x1
    go_wp2_with fail
    clear x0a x1a
    go_ret2
    rw [HC.out, HV.out]
    exact RetOwnC.none_ hW
  · have HC : Hid (nvCode ss xs = 0) := by rw [Hid, nvCode, if_neg (by rw [qv]; decide)]
    go_enter Try.func15, Try.ntmps15
    go_wp2_with fail
    generalize (w.alloc (.cells #[.slice A n c, .slice (some ⟨gb, 0, none⟩) m m] 31)) = W0 at hW x0 x1 ⊢
    refine (l18Ok_any w.heap.size A n c ss _ m m xs _ x0 x1 (h.below hW) (h2.below hW) hn hm hz).mono ?_
    rintro e w2 ⟨rfl, hb2⟩
    replace x0 := (hb2.cell (World.block_lt_of_cell? _ _ x0)).trans x0
    replace x1 := (hb2.cell (World.block_lt_of_cell? _ _ x1)).trans x1
    replace hW := below_step hW hb2
    clear hb2
    rw [qv]
    have x0a := cell_al x0
    have x1a := cell_al x1
    go_wp2_with fail
    clear x0a x1a
    have hB : w.heap.size + 1 ≤ w2.heap.size := by have := World.block_lt_of_cell? _ _ x0; exact this
    go_loopw [4, 5] (fun o i wr => ∃ z : Nat, ∃ v : Value, z ≤ n ∧ i = .int .i64 z ∧ v = o ∧ Own wr (w.heap.size + 1) 9 1 eS v ((ss.take z).filter (nvP xs)) ∧ Below (w.heap.size + 1) w2 wr) (fun _ i _ => n - (intOf i).toNat)
    case atStart => exact ⟨0, _, by omega, rfl, rfl, Own.lit (enc := eS) (k := 1) w2 #[] 9 [] 0 hB rfl (by unfold maxLen; omega) eS_len rfl, below_al hB _⟩
    case round =>
      obtain ⟨z, v, hzn, rfl, rfl, ho, hb0⟩ := hrel
      have hb := hW.trans (hb0.mono (Nat.le_succ _))
      have y0 := (hb0.cell (p := ⟨w.heap.size, 0, none⟩) (Nat.lt_succ_self _)).trans x0
      have y1 := (hb0.cell (p := ⟨w.heap.size, 1, none⟩) (Nat.lt_succ_self _)).trans x1
      have HLE := Lib.hid (filter_len ss z (nvP xs))
      by_cases hlt2 : z < n
      · obtain ⟨b, off, x, rfl, hx, hmm, c0⟩ := (h.below hb).atS hlt2
        have HX := Lib.hid hx
        clear hx hmm
        go_wp2_with fail
        go_loopw [6, 7] (fun r i wr => ∃ k : Nat, ∃ q : Bool, k ≤ m ∧ i = .int .i64 k ∧ r = .bool q ∧ Hid (q = evB (xs.take k) x) ∧ Own wr (w.heap.size + 1) 9 1 eS v ((ss.take z).filter (nvP xs)) ∧ Below (w.heap.size + 1) w2 wr) (fun _ i _ => m - (intOf i).toNat)
        case atStart => exact ⟨0, false, by omega, rfl, rfl, rfl, ho, hb0⟩
        case round =>
          obtain ⟨k, q, hk, rfl, rfl, HQ, ho2, hb2⟩ := hrel
          clear y0 y1 c0
          have hbq := hW.trans (hb2.mono (Nat.le_succ _))
          have y0 := (hb2.cell (p := ⟨w.heap.size, 0, none⟩) (Nat.lt_succ_self _)).trans x0
          have y1 := (hb2.cell (p := ⟨w.heap.size, 1, none⟩) (Nat.lt_succ_self _)).trans x1
          have c0 := (h.below hbq).getS HX.out
          by_cases hlk : k < m
          · obtain ⟨b2, off2, y, hbo, hy, hym, d0, d1, d2, d3⟩ := (h2.below hbq).atAct hlk
            cases hbo
            have KX := Lib.hid hy
            clear hy hym
            rw [Nat.zero_add] at d0 d1 d2 d3
            cases q
            · cases q2 : (y.2.1.toList == [115, 104, 111, 119])
              · skip
                go_wp2_with fail
                go_quiet (fail)
                have hod := ho2.drewN nq
                have hbd := below_drewN hb2 nq
                clear c0 y0 y1 d0 d1 d2 d3
                generalize wr.drewN nq = W9 at hod hbd ⊢
                go_wp2_with fail
                go_roundw
                case rel => exact ⟨k + 1, false, by omega, by go_num, rfl, by rw [Hid, evB_step KX.out, ← HQ.out, shB_of q2]; rfl, hod, hbd⟩
                case measure => simp [intOf]; omega
              · cases q3 : (y.2.2.1.toList == x.toList)
                · skip
                  go_wp2_with fail
                  go_quiet (fail)
                  have hod := ho2.drewN nq
                  have hbd := below_drewN hb2 nq
                  clear c0 y0 y1 d0 d1 d2 d3
                  generalize wr.drewN nq = W9 at hod hbd ⊢
                  go_wp2_with fail
                  go_roundw
                  case rel => exact ⟨k + 1, false, by omega, by go_num, rfl, by rw [Hid, evB_step KX.out, ← HQ.out, shB_of q2, q3]; rfl, hod, hbd⟩
                  case measure => simp [intOf]; omega
                · skip
                  go_wp2_with fail
                  go_quiet (fail)
                  have hod := ho2.drewN nq
                  have hbd := below_drewN hb2 nq
                  clear c0 y0 y1 d0 d1 d2 d3
                  generalize wr.drewN nq = W9 at hod hbd ⊢
                  go_wp2_with fail
                  go_roundw
                  case rel => exact ⟨k + 1, true, by omega, by go_num, rfl, by rw [Hid, evB_step KX.out, ← HQ.out, shB_of q2, q3]; rfl, hod, hbd⟩
                  case measure => simp [intOf]; omega
            · skip
              go_wp2_with fail
              go_quiet (fail)
              have hod := ho2.drewN nq
              have hbd := below_drewN hb2 nq
              clear c0 y0 y1 d0 d1 d2 d3
              generalize wr.drewN nq = W9 at hod hbd ⊢
              go_wp2_with fail
              go_roundw
              case rel => exact ⟨k + 1, true, by omega, by go_num, rfl, by rw [Hid, evB_step KX.out, ← HQ.out]; rfl, hod, hbd⟩
              case measure => simp [intOf]; omega
          · have : k = m := by omega
            subst this
            have HE : Hid (q = evB xs x) := by rw [Hid, HQ.out, List.take_of_length_le (by rw [h2.1]; exact Nat.le_refl _)]
            have hsz := Nat.le_trans hB hb2.size
            cases q
            · have HF := Lib.hid (filter_yes (p := nvP xs) HX.out (by rw [nvP, ← HE.out]; rfl))
              go_wp2_with (at_builtin; refine wpList_app1x rfl (.tmp 51) (.tmp 57) 22 9 rfl (w.heap.size + 1) i0 _ 1 16 Try.underlying22 hi0 hz0 hz1 hz2 rfl (by omega) eS eS_len eS_one _ ((ss.take z).filter (nvP xs)) rfl (ho2.alloc _) x _ _ rfl (newcell _ _ _ _ rfl) (by have := HLE.out; omega) (by have := HLE.out; unfold maxLen; omega) (Nat.le_trans (by exact hsz) (below_alloc _ _).size) ?_; intro v9 w9 ho9 hb9 hg9 hv9)
              go_roundw
              case rel => exact ⟨z + 1, _, by omega, by go_num, rfl, by rw [HF.out]; exact ho9, hb2.trans ((below_al (by exact hsz) _).trans hb9)⟩
              case measure => simp [intOf]; omega
            · have HF := Lib.hid (filter_no (p := nvP xs) HX.out (by rw [nvP, ← HE.out]; rfl))
              go_wp2_with fail
              go_roundw
              case rel => exact ⟨z + 1, _, by omega, by go_num, rfl, by rw [HF.out]; exact ho2, hb2⟩
              case measure => simp [intOf]; omega
      · have : z = n := by omega
        subst this
        have HTK : Hid ((ss.take z).filter (nvP xs) = nvVal ss xs) := by rw [Hid, nvVal, if_pos HC.out, List.take_of_length_le (by rw [h.1]; exact Nat.le_refl _)]
        rw [HTK.out] at ho
        go_wp2_with fail
        go_ret2
        rw [HC.out]
        exact RetOwnC.mk (ho.mono (Nat.le_succ _)) hb

set_option maxHeartbeats 3200000 in
theorem implNeverShown_any (A : Option Addr) (n c : Nat) (ss : List ByteArray) (gb m : Nat) (xs : List AX) (w : World) (h : Sl w 1 eS A n ss) (h2 : Sl w 4 eAct (some ⟨gb, 0, none⟩) m xs) (hn : n ≤ 1048577) (hm : m ≤ 1048577) (hz : ∀ s ∈ ss, s.size ≤ maxLen) :
    Calls Try.prog 16 #[.agg #[.slice A n c, .slice (some ⟨gb, 0, none⟩) m m]] w fun e w' => RetOwnC 9 1 eS (nvVal ss xs) (nvCode ss xs) w e w' := by
  obtain ⟨i0, hi0, hz0, hz1, hz2⟩ := info_parts infoStr
  have hW := below_alloc w (.cells #[.slice A n c, .slice (some ⟨gb, 0, none⟩) m m] 31)
  have x0 : (w.alloc (.cells #[.slice A n c, .slice (some ⟨gb, 0, none⟩) m m] 31)).cell? ⟨w.heap.size, 0, none⟩ = some (.slice A n c) := by simp [go_sem]
  have x1 : (w.alloc (.cells #[.slice A n c, .slice (some ⟨gb, 0, none⟩) m m] 31)).cell? ⟨w.heap.size, 1, none⟩ = some (.slice (some ⟨gb, 0, none⟩) m m) := by simp [go_sem]
  cases qv : vScr ss xs
  · have HC : Hid (nvCode ss xs = 1) := by rw [Hid, nvCode, if_pos qv]
    have HV : Hid (nvVal ss xs = []) := by rw [Hid, nvVal, if_neg (by rw [HC.out]; decide)]
    go_enter Try.func16, Try.ntmps16
    go_wp2_with fail
    generalize (w.alloc (.cells #[.slice A n c, .slice (some ⟨gb, 0, none⟩) m m] 31)) = W0 at hW x0 x1 ⊢
    refine (implValidScript_any A n c ss _ m m xs _ (h.below hW) (h2.below hW) hn hm hz).mono ?_
    rintro e w2 ⟨rfl, hb2⟩
    replace x0 := (hb2.cell (World.block_lt_of_cell? _ _ x0)).trans x0
    replace x1 := (hb2.cell (World.block_lt_of_cell? _ _ x1)).trans x1
    replace hW := below_step hW hb2
    clear hb2
    rw [qv]
    have x0a := cell_al x0
    have x1a := cell_al x1
    go_wp2_with fail
    clear x0a x1a
    go_ret2
    rw [HC.out, HV.out]
    exact RetOwnC.none_ hW
  · have HC : Hid (nvCode ss xs = 0) := by rw [Hid, nvCode, if_neg (by rw [qv]; decide)]
    go_enter Try.func16, Try.ntmps16
    go_wp2_with fail
    generalize (w.alloc (.cells #[.slice A n c, .slice (some ⟨gb, 0, none⟩) m m] 31)) = W0 at hW x0 x1 ⊢
    refine (implValidScript_any A n c ss _ m m xs _ (h.below hW) (h2.below hW) hn hm hz).mono ?_
    rintro e w2 ⟨rfl, hb2⟩
    replace x0 := (hb2.cell (World.block_lt_of_cell? _ _ x0)).trans x0
    replace x1 := (hb2.cell (World.block_lt_of_cell? _ _ x1)).trans x1
    replace hW := below_step hW hb2
    clear hb2
    rw [qv]
    have x0a := cell_al x0
    have x1a := cell_al x1
    go_wp2_with fail
    clear x0a x1a
    have hB : w.heap.size + 1 ≤ w2.heap.size := by have := World.block_lt_of_cell? _ _ x0; exact this
    go_loopw [4, 14] (fun o i wr => ∃ z : Nat, ∃ v : Value, z ≤ n ∧ i = .int .i64 z ∧ v = o ∧ Own wr (w.heap.size + 1) 9 1 eS v ((ss.take z).filter (nvP xs)) ∧ Below (w.heap.size + 1) w2 wr) (fun _ i _ => n - (intOf i).toNat)
    case atStart => exact ⟨0, _, by omega, rfl, rfl, Own.lit (enc := eS) (k := 1) w2 #[] 9 [] 0 hB rfl (by unfold maxLen; omega) eS_len rfl, below_al hB _⟩
    case round =>
      obtain ⟨z, v, hzn, rfl, rfl, ho, hb0⟩ := hrel
      have hb := hW.trans (hb0.mono (Nat.le_succ _))
      have y0 := (hb0.cell (p := ⟨w.heap.size, 0, none⟩) (Nat.lt_succ_self _)).trans x0
      have y1 := (hb0.cell (p := ⟨w.heap.size, 1, none⟩) (Nat.lt_succ_self _)).trans x1
      have HLE := Lib.hid (filter_len ss z (nvP xs))
      by_cases hlt2 : z < n
      · obtain ⟨b, off, x, rfl, hx, hmm, c0⟩ := (h.below hb).atS hlt2
        have HX := Lib.hid hx
        clear hx hmm
        have hbs : Below (w.heap.size + 1) w2 (wr.alloc (.cells #[.string x] 9)) := hb0.alloc (Nat.le_trans hB hb0.size) _
        have hbt := hW.trans (hbs.mono (Nat.le_succ _))
        have cx : (wr.alloc (.cells #[.string x] 9)).cell? ⟨wr.heap.size, 0, none⟩ = some (.string x) := by simp [go_sem]
        have hos := ho.alloc (.cells #[.string x] 9)
        have y0a := cell_al y0 (.cells #[.string x] 9)
        have y1a := cell_al y1 (.cells #[.string x] 9)
        have hsa := Nat.le_trans hB hbs.size
        have hgs : wr.heap.size < (wr.alloc (.cells #[.string x] 9)).heap.size := by simp
        have hs2 := h2.below hbt
        cases qs : evB xs x
        · have HF := Lib.hid (filter_yes (p := nvP xs) HX.out (by rw [nvP, qs]; rfl))
          go_wp2_with fail
          generalize wr.alloc (.cells #[.string x] 9) = W8 at hbs hbt cx hos y0a y1a hsa hgs hs2 ⊢
          generalize wr.heap.size = gx at cx hgs ⊢
          refine (ContainsFuncAct_any x gx _ m m xs W8 hs2 hm cx).mono ?_
          rintro e w4 ⟨rfl, hb4⟩
          rw [qs]
          have hbu := below_mid hbs hb4 hsa
          have hou := hos.below hb4
          have cxu := (hb4.cell (World.block_lt_of_cell? _ _ cx)).trans cx
          have y0u := (hb4.cell (World.block_lt_of_cell? _ _ y0a)).trans y0a
          have y1u := (hb4.cell (World.block_lt_of_cell? _ _ y1a)).trans y1a
          have hsu := Nat.le_trans hsa hb4.size
          clear y0a y1a y0 y1 c0
          go_wp2_with (at_builtin; refine wpList_app1x rfl (.tmp 23) (.tmp 25) 22 9 rfl (w.heap.size + 1) i0 _ 1 16 Try.underlying22 hi0 hz0 hz1 hz2 rfl (by omega) eS eS_len eS_one _ ((ss.take z).filter (nvP xs)) rfl (hou.alloc _) x _ _ rfl (newcell _ _ _ _ rfl) (by have := HLE.out; omega) (by have := HLE.out; unfold maxLen; omega) (Nat.le_trans (by exact hsu) (below_alloc _ _).size) ?_; intro v9 w9 ho9 hb9 hg9 hv9)
          go_roundw
          case rel => exact ⟨z + 1, _, by omega, by go_num, rfl, by rw [HF.out]; exact ho9, hbu.trans ((below_al (by exact hsu) _).trans hb9)⟩
          case measure => simp [intOf]; omega
        · have HF := Lib.hid (filter_no (p := nvP xs) HX.out (by rw [nvP, qs]; rfl))
          go_wp2_with fail
          generalize wr.alloc (.cells #[.string x] 9) = W8 at hbs hbt cx hos y0a y1a hsa hgs hs2 ⊢
          generalize wr.heap.size = gx at cx hgs ⊢
          refine (ContainsFuncAct_any x gx _ m m xs W8 hs2 hm cx).mono ?_
          rintro e w4 ⟨rfl, hb4⟩
          rw [qs]
          have hbu := below_mid hbs hb4 hsa
          have hou := hos.below hb4
          have y0u := (hb4.cell (World.block_lt_of_cell? _ _ y0a)).trans y0a
          have y1u := (hb4.cell (World.block_lt_of_cell? _ _ y1a)).trans y1a
          clear y0a y1a y0 y1 c0 cx
          go_wp2_with fail
          go_roundw
          case rel => exact ⟨z + 1, _, by omega, by go_num, rfl, by rw [HF.out]; exact hou, hbu⟩
          case measure => simp [intOf]; omega
      · have : z = n := by omega
        subst this
        have HTK : Hid ((ss.take z).filter (nvP xs) = nvVal ss xs) := by rw [Hid, nvVal, if_pos HC.out, List.take_of_length_le (by rw [h.1]; exact Nat.le_refl _)]
        rw [HTK.out] at ho
        go_wp2_with fail
        go_ret2
        rw [HC.out]
        exact RetOwnC.mk (ho.mono (Nat.le_succ _)) hb

end Go.Proofs.Ytccddejbbdciiaa
