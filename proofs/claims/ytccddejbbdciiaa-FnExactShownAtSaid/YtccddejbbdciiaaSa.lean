/-
  Scripts: what is shown at a tick, both sides.
-/
import Derived.Test.YtccddejbbdciiaaVb
import Derived.Test.YtccddejbbdciiaaVw
namespace Go.Proofs.Ytccddejbbdciiaa
open Go.RowKit

set_option maxHeartbeats 3200000 in
theorem specShownAt_any (A : Option Addr) (n c : Nat) (ss : List ByteArray) (gb m : Nat) (xs : List AX) (t : Int) (w : World) (h : Sl w 1 eS A n ss) (h2 : Sl w 4 eAct (some ⟨gb, 0, none⟩) m xs) (hn : n ≤ 1048577) (hm : m ≤ 1048577) (hz : ∀ s ∈ ss, s.size ≤ maxLen) :
    Calls Try.prog 7 #[.agg #[.slice A n c, .slice (some ⟨gb, 0, none⟩) m m], .int .i64 t] w fun e w' => RetOwnC 9 1 eS (saVal ss xs t) (saCode ss xs t) w e w' := by
  obtain ⟨i0, hi0, hz0, hz1, hz2⟩ := info_parts infoStr
  have hW := below_alloc w (.cells #[.slice A n c, .slice (some ⟨gb, 0, none⟩) m m] 31)
  have x0 : (w.alloc (.cells #[.slice A n c, .slice (some ⟨gb, 0, none⟩) m m] 31)).cell? ⟨w.heap.size, 0, none⟩ = some (.slice A n c) := by simp [go_sem]
  have x1 : (w.alloc (.cells #[.slice A n c, .slice (some ⟨gb, 0, none⟩) m m] 31)).cell? ⟨w.heap.size, 1, none⟩ = some (.slice (some ⟨gb, 0, none⟩) m m) := by simp [go_sem]
  cases qv : vScr ss xs
  · have HC : Hid (saCode ss xs t = 1) := by rw [Hid, saCode, if_pos qv]
    have HV : Hid (saVal ss xs t = []) := by rw [Hid, saVal, if_neg (by rw [HC.out]; decide)]
    go_enter Try.func7, Try.ntmps7
    go_wp2_with fail
    generalize (w.alloc (.cells #[.slice A n c, .slice (some ⟨gb, 0, none⟩) m m] 31)) = W0 at hW x0 x1 ⊢
    refine (l18Ok_any w.heap.size A n c ss _ m m xs _ x0 x1 (h.below hW) (h2.below hW) hn hm hz).mono ?_
    rintro e w2 ⟨rfl, hb2⟩
    replace x0 := (hb2.cell (World.block_lt_of_cell? _ _ x0)).trans x0
    replace x1 := (hb2.cell (World.block_lt_of_cell? _ _ x1)).trans x1
    replace hW := below_step hW hb2
    rw [qv]
    go_wp2_with fail
    go_ret2
    rw [HC.out, HV.out]
    exact RetOwnC.none_ hW
  · cases qt : inB t 0 10000
    · have HC : Hid (saCode ss xs t = 2) := by rw [Hid, saCode, if_neg (by rw [qv]; decide), if_pos qt]
      have HV : Hid (saVal ss xs t = []) := by rw [Hid, saVal, if_neg (by rw [HC.out]; decide)]
      go_enter Try.func7, Try.ntmps7
      go_wp2_with fail
      generalize (w.alloc (.cells #[.slice A n c, .slice (some ⟨gb, 0, none⟩) m m] 31)) = W0 at hW x0 x1 ⊢
      refine (l18Ok_any w.heap.size A n c ss _ m m xs _ x0 x1 (h.below hW) (h2.below hW) hn hm hz).mono ?_
      rintro e w2 ⟨rfl, hb2⟩
      replace x0 := (hb2.cell (World.block_lt_of_cell? _ _ x0)).trans x0
      replace x1 := (hb2.cell (World.block_lt_of_cell? _ _ x1)).trans x1
      replace hW := below_step hW hb2
      rw [qv]
      go_wp2_with fail
      refine (l00In_any _ _ _ _).mono ?_
      rintro e w3 ⟨rfl, rfl⟩
      rw [qt]
      go_wp2_with fail
      go_ret2
      rw [HC.out, HV.out]
      exact RetOwnC.none_ hW
    · have HC : Hid (saCode ss xs t = 0) := by rw [Hid, saCode, if_neg (by rw [qv]; decide), if_neg (by rw [qt]; decide)]
      go_enter Try.func7, Try.ntmps7
      go_wp2_with fail
      generalize (w.alloc (.cells #[.slice A n c, .slice (some ⟨gb, 0, none⟩) m m] 31)) = W0 at hW x0 x1 ⊢
      refine (l18Ok_any w.heap.size A n c ss _ m m xs _ x0 x1 (h.below hW) (h2.below hW) hn hm hz).mono ?_
      rintro e w2 ⟨rfl, hb2⟩
      replace x0 := (hb2.cell (World.block_lt_of_cell? _ _ x0)).trans x0
      replace x1 := (hb2.cell (World.block_lt_of_cell? _ _ x1)).trans x1
      replace hW := below_step hW hb2
      rw [qv]
      go_wp2_with fail
      refine (l00In_any _ _ _ _).mono ?_
      rintro e w3 ⟨rfl, rfl⟩
      rw [qt]
      go_wp2_with fail
      go_loop [6] (fun i => ∃ k : Nat, k ≤ m ∧ i = .int .i64 k ∧ Hid (∀ (i : Nat) x, i < k → xs[i]? = some x → x.1 ≤ t)) (fun i => m - (intOf i).toNat)
      case atStart => exact ⟨0, by omega, rfl, by intro i x hi; omega⟩
      case round =>
        obtain ⟨k, hk, rfl, hA⟩ := hrel
        by_cases hlt : k < m
        · obtain ⟨b, off, x, hbo, hx, hmm, d0, d1, d2, d3⟩ := (h2.below hW).atAct hlt
          cases hbo
          rw [Nat.zero_add] at d0
          have HX := Lib.hid hx
          clear hx hmm
          by_cases hle : x.1 ≤ t
          · go_wp2_with fail
            go_round
            case rel =>
              refine ⟨k + 1, by omega, by go_num, ?_⟩
              intro i s hi hs
              rcases Nat.lt_succ_iff_lt_or_eq.1 hi with hi | rfl
              · exact hA i s hi hs
              · rw [HX.out] at hs; cases hs; exact hle
            case measure => simp [intOf]; omega
          · clear d1 d2 d3
            have HCUT : Hid (cutN xs t = k) := cutN_eq (by rw [h2.1]; exact hk) hA.out (.inr ⟨x, HX.out, by omega⟩)
            have hB : w.heap.size + 1 ≤ w2.heap.size := by have := World.block_lt_of_cell? _ _ x0; exact this
            have x0a := cell_al x0
            have x1a := cell_al x1
            go_wp2_with fail
            clear x0a x1a
            go_loopw [7, 8] (fun o i wr => ∃ z : Nat, ∃ v : Value, z ≤ n ∧ i = .int .i64 z ∧ o = v ∧ Own wr (w.heap.size + 1) 9 1 eS v ((ss.take z).filter (saP xs t)) ∧ Below (w.heap.size + 1) w2 wr) (fun _ i _ => n - (intOf i).toNat)
            case atStart => exact ⟨0, _, by omega, rfl, rfl, Own.lit (enc := eS) (k := 1) w2 #[] 9 [] 0 hB rfl (by unfold maxLen; omega) eS_len rfl, below_al hB _⟩
            case round =>
              obtain ⟨z, v, hzn, rfl, rfl, ho, hb0⟩ := hrel
              have hb := hW.trans (hb0.mono (Nat.le_succ _))
              have y0 := (hb0.cell (p := ⟨w.heap.size, 0, none⟩) (Nat.lt_succ_self _)).trans x0
              have y1 := (hb0.cell (p := ⟨w.heap.size, 1, none⟩) (Nat.lt_succ_self _)).trans x1
              have HLE := Lib.hid (filter_len ss z (saP xs t))
              by_cases hlt2 : z < n
              · obtain ⟨b, off, x, rfl, hx, hmm, c0⟩ := (h.below hb).atS hlt2
                have HX := Lib.hid hx
                clear hx hmm
                have g1 : (0 : Int) ≤ (z : Int) := by omega
                have g2 : (z : Int) < (n : Int) := by omega
                have g3 : (0 : Int) ≤ (k : Int) := by omega
                have g4 : (k : Int) ≤ (m : Int) := by omega
                cases qs : isSh (xs.take k) x
                · have HF := Lib.hid (filter_no (p := saP xs t) HX.out (by rw [saP, HCUT.out]; exact qs))
                  have hcl : ∀ j, Calls Try.prog 24 #[.slice (some ⟨gb, 0, none⟩) k m, .string x] (wr.drewN j) fun e w' => e = .returned (.bool (isSh (xs.take k) x)) ∧ wr.drewN j = w' := fun j => l18Is_any (some ⟨gb, 0, none⟩) k m (xs.take k) x _ ((h2.below hb).take hk) (by omega)
                  rw [qs] at hcl
                  go_wp2_with fail
                  go_quiet ((go_at_call 24; exact quiet_left (hcl _)))
                  clear hcl
                  have hbd := below_drewN hb nq
                  have hb0d := below_drewN hb0 nq
                  have hod := ho.drewN nq
                  have y0d : (wr.drewN nq).cell? ⟨w.heap.size, 0, none⟩ = some (.slice (some ⟨b, off, none⟩) n c) := y0
                  have y1d : (wr.drewN nq).cell? ⟨w.heap.size, 1, none⟩ = some (.slice (some ⟨gb, 0, none⟩) m m) := y1
                  have c0d : (wr.drewN nq).cell? ⟨b, off + z, none⟩ = some (.string x) := c0
                  clear c0 y0 y1
                  generalize wr.drewN nq = W9 at hbd hb0d hod y0d y1d c0d ⊢
                  go_wp2_with fail
                  go_roundw
                  case rel => exact ⟨z + 1, _, by omega, by go_num, rfl, by rw [HF.out]; exact hod, hb0d⟩
                  case measure => simp [intOf]; omega
                · have HF := Lib.hid (filter_yes (p := saP xs t) HX.out (by rw [saP, HCUT.out]; exact qs))
                  have hcl : ∀ j, Calls Try.prog 24 #[.slice (some ⟨gb, 0, none⟩) k m, .string x] (wr.drewN j) fun e w' => e = .returned (.bool (isSh (xs.take k) x)) ∧ wr.drewN j = w' := fun j => l18Is_any (some ⟨gb, 0, none⟩) k m (xs.take k) x _ ((h2.below hb).take hk) (by omega)
                  rw [qs] at hcl
                  go_wp2_with fail
                  go_quiet ((go_at_call 24; exact quiet_left (hcl _)))
                  clear hcl
                  have hbd := below_drewN hb nq
                  have hb0d := below_drewN hb0 nq
                  have hod := ho.drewN nq
                  have y0d : (wr.drewN nq).cell? ⟨w.heap.size, 0, none⟩ = some (.slice (some ⟨b, off, none⟩) n c) := y0
                  have y1d : (wr.drewN nq).cell? ⟨w.heap.size, 1, none⟩ = some (.slice (some ⟨gb, 0, none⟩) m m) := y1
                  have c0d : (wr.drewN nq).cell? ⟨b, off + z, none⟩ = some (.string x) := c0
                  clear c0 y0 y1
                  generalize wr.drewN nq = W9 at hbd hb0d hod y0d y1d c0d ⊢
                  have hsz := Nat.le_trans hB hb0d.size
                  go_wp2_with (at_builtin; refine wpList_app1x rfl (.tmp 49) (.tmp 55) 22 9 rfl (w.heap.size + 1) i0 _ 1 16 Try.underlying22 hi0 hz0 hz1 hz2 rfl (by omega) eS eS_len eS_one _ ((ss.take z).filter (saP xs t)) rfl (hod.alloc _) x _ _ rfl (newcell _ _ _ _ rfl) (by have := HLE.out; omega) (by have := HLE.out; unfold maxLen; omega) (Nat.le_trans (by exact hsz) (below_alloc _ _).size) ?_; intro v9 w9 ho9 hb9 hg9 hv9)
                  go_roundw
                  case rel => exact ⟨z + 1, _, by omega, by go_num, rfl, by rw [HF.out]; exact ho9, hb0d.trans ((below_al (by exact hsz) _).trans hb9)⟩
                  case measure => simp [intOf]; omega
              · have : z = n := by omega
                subst this
                have HTK : Hid ((ss.take z).filter (saP xs t) = saVal ss xs t) := by rw [Hid, saVal, if_pos HC.out, List.take_of_length_le (by rw [h.1]; exact Nat.le_refl _)]
                rw [HTK.out] at ho
                go_wp2_with fail
                go_ret2
                rw [HC.out]
                exact RetOwnC.mk (ho.mono (Nat.le_succ _)) hb
        · have hkm : Hid (k = m) := by rw [Hid]; omega
          have HCUT : Hid (cutN xs t = k) := cutN_eq (by rw [h2.1]; exact hk) hA.out (.inl (by rw [h2.1]; exact hkm.out))
          have hB : w.heap.size + 1 ≤ w2.heap.size := by have := World.block_lt_of_cell? _ _ x0; exact this
          have x0a := cell_al x0
          have x1a := cell_al x1
          go_wp2_with fail
          clear x0a x1a
          go_loopw [7, 8] (fun o i wr => ∃ z : Nat, ∃ v : Value, z ≤ n ∧ i = .int .i64 z ∧ o = v ∧ Own wr (w.heap.size + 1) 9 1 eS v ((ss.take z).filter (saP xs t)) ∧ Below (w.heap.size + 1) w2 wr) (fun _ i _ => n - (intOf i).toNat)
          case atStart => exact ⟨0, _, by omega, rfl, rfl, Own.lit (enc := eS) (k := 1) w2 #[] 9 [] 0 hB rfl (by unfold maxLen; omega) eS_len rfl, below_al hB _⟩
          case round =>
            obtain ⟨z, v, hzn, rfl, rfl, ho, hb0⟩ := hrel
            have hb := hW.trans (hb0.mono (Nat.le_succ _))
            have y0 := (hb0.cell (p := ⟨w.heap.size, 0, none⟩) (Nat.lt_succ_self _)).trans x0
            have y1 := (hb0.cell (p := ⟨w.heap.size, 1, none⟩) (Nat.lt_succ_self _)).trans x1
            have HLE := Lib.hid (filter_len ss z (saP xs t))
            by_cases hlt2 : z < n
            · obtain ⟨b, off, x, rfl, hx, hmm, c0⟩ := (h.below hb).atS hlt2
              have HX := Lib.hid hx
              clear hx hmm
              have g1 : (0 : Int) ≤ (z : Int) := by omega
              have g2 : (z : Int) < (n : Int) := by omega
              have g3 : (0 : Int) ≤ (k : Int) := by omega
              have g4 : (k : Int) ≤ (m : Int) := by omega
              cases qs : isSh (xs.take k) x
              · have HF := Lib.hid (filter_no (p := saP xs t) HX.out (by rw [saP, HCUT.out]; exact qs))
                have hcl : ∀ j, Calls Try.prog 24 #[.slice (some ⟨gb, 0, none⟩) k m, .string x] (wr.drewN j) fun e w' => e = .returned (.bool (isSh (xs.take k) x)) ∧ wr.drewN j = w' := fun j => l18Is_any (some ⟨gb, 0, none⟩) k m (xs.take k) x _ ((h2.below hb).take hk) (by omega)
                rw [qs] at hcl
                go_wp2_with fail
                go_quiet ((go_at_call 24; exact quiet_left (hcl _)))
                clear hcl
                have hbd := below_drewN hb nq
                have hb0d := below_drewN hb0 nq
                have hod := ho.drewN nq
                have y0d : (wr.drewN nq).cell? ⟨w.heap.size, 0, none⟩ = some (.slice (some ⟨b, off, none⟩) n c) := y0
                have y1d : (wr.drewN nq).cell? ⟨w.heap.size, 1, none⟩ = some (.slice (some ⟨gb, 0, none⟩) m m) := y1
                have c0d : (wr.drewN nq).cell? ⟨b, off + z, none⟩ = some (.string x) := c0
                clear c0 y0 y1
                generalize wr.drewN nq = W9 at hbd hb0d hod y0d y1d c0d ⊢
                go_wp2_with fail
                go_roundw
                case rel => exact ⟨z + 1, _, by omega, by go_num, rfl, by rw [HF.out]; exact hod, hb0d⟩
                case measure => simp [intOf]; omega
              · have HF := Lib.hid (filter_yes (p := saP xs t) HX.out (by rw [saP, HCUT.out]; exact qs))
                have hcl : ∀ j, Calls Try.prog 24 #[.slice (some ⟨gb, 0, none⟩) k m, .string x] (wr.drewN j) fun e w' => e = .returned (.bool (isSh (xs.take k) x)) ∧ wr.drewN j = w' := fun j => l18Is_any (some ⟨gb, 0, none⟩) k m (xs.take k) x _ ((h2.below hb).take hk) (by omega)
                rw [qs] at hcl
                go_wp2_with fail
                go_quiet ((go_at_call 24; exact quiet_left (hcl _)))
                clear hcl
                have hbd := below_drewN hb nq
                have hb0d := below_drewN hb0 nq
                have hod := ho.drewN nq
                have y0d : (wr.drewN nq).cell? ⟨w.heap.size, 0, none⟩ = some (.slice (some ⟨b, off, none⟩) n c) := y0
                have y1d : (wr.drewN nq).cell? ⟨w.heap.size, 1, none⟩ = some (.slice (some ⟨gb, 0, none⟩) m m) := y1
                have c0d : (wr.drewN nq).cell? ⟨b, off + z, none⟩ = some (.string x) := c0
                clear c0 y0 y1
                generalize wr.drewN nq = W9 at hbd hb0d hod y0d y1d c0d ⊢
                have hsz := Nat.le_trans hB hb0d.size
                go_wp2_with (at_builtin; refine wpList_app1x rfl (.tmp 49) (.tmp 55) 22 9 rfl (w.heap.size + 1) i0 _ 1 16 Try.underlying22 hi0 hz0 hz1 hz2 rfl (by omega) eS eS_len eS_one _ ((ss.take z).filter (saP xs t)) rfl (hod.alloc _) x _ _ rfl (newcell _ _ _ _ rfl) (by have := HLE.out; omega) (by have := HLE.out; unfold maxLen; omega) (Nat.le_trans (by exact hsz) (below_alloc _ _).size) ?_; intro v9 w9 ho9 hb9 hg9 hv9)
                go_roundw
                case rel => exact ⟨z + 1, _, by omega, by go_num, rfl, by rw [HF.out]; exact ho9, hb0d.trans ((below_al (by exact hsz) _).trans hb9)⟩
                case measure => simp [intOf]; omega
            · have : z = n := by omega
              subst this
              have HTK : Hid ((ss.take z).filter (saP xs t) = saVal ss xs t) := by rw [Hid, saVal, if_pos HC.out, List.take_of_length_le (by rw [h.1]; exact Nat.le_refl _)]
              rw [HTK.out] at ho
              go_wp2_with fail
              go_ret2
              rw [HC.out]
              exact RetOwnC.mk (ho.mono (Nat.le_succ _)) hb

set_option maxHeartbeats 3200000 in
theorem implShownAt_any (A : Option Addr) (n c : Nat) (ss : List ByteArray) (gb m : Nat) (xs : List AX) (t : Int) (w : World) (h : Sl w 1 eS A n ss) (h2 : Sl w 4 eAct (some ⟨gb, 0, none⟩) m xs) (hn : n ≤ 1048577) (hm : m ≤ 1048577) (hz : ∀ s ∈ ss, s.size ≤ maxLen) :
    Calls Try.prog 9 #[.agg #[.slice A n c, .slice (some ⟨gb, 0, none⟩) m m], .int .i64 t] w fun e w' => RetOwnC 9 1 eS (saVal ss xs t) (saCode ss xs t) w e w' := by
  obtain ⟨i0, hi0, hz0, hz1, hz2⟩ := info_parts infoStr
  have hW := below_alloc w (.cells #[.slice A n c, .slice (some ⟨gb, 0, none⟩) m m] 31)
  have x0 : (w.alloc (.cells #[.slice A n c, .slice (some ⟨gb, 0, none⟩) m m] 31)).cell? ⟨w.heap.size, 0, none⟩ = some (.slice A n c) := by simp [go_sem]
  have x1 : (w.alloc (.cells #[.slice A n c, .slice (some ⟨gb, 0, none⟩) m m] 31)).cell? ⟨w.heap.size, 1, none⟩ = some (.slice (some ⟨gb, 0, none⟩) m m) := by simp [go_sem]
  cases qv : vScr ss xs
  · have HC : Hid (saCode ss xs t = 1) := by rw [Hid, saCode, if_pos qv]
    have HV : Hid (saVal ss xs t = []) := by rw [Hid, saVal, if_neg (by rw [HC.out]; decide)]
    go_enter Try.func9, Try.ntmps9
    go_wp2_with fail
    generalize (w.alloc (.cells #[.slice A n c, .slice (some ⟨gb, 0, none⟩) m m] 31)) = W0 at hW x0 x1 ⊢
    refine (implValidScript_any A n c ss _ m m xs _ (h.below hW) (h2.below hW) hn hm hz).mono ?_
    rintro e w2 ⟨rfl, hb2⟩
    replace x0 := (hb2.cell (World.block_lt_of_cell? _ _ x0)).trans x0
    replace x1 := (hb2.cell (World.block_lt_of_cell? _ _ x1)).trans x1
    replace hW := below_step hW hb2
    rw [qv]
    go_wp2_with fail
    go_ret2
    rw [HC.out, HV.out]
    exact RetOwnC.none_ hW
  · cases qt : inB t 0 10000
    · have HC : Hid (saCode ss xs t = 2) := by rw [Hid, saCode, if_neg (by rw [qv]; decide), if_pos qt]
      have HV : Hid (saVal ss xs t = []) := by rw [Hid, saVal, if_neg (by rw [HC.out]; decide)]
      go_enter Try.func9, Try.ntmps9
      go_wp2_with fail
      generalize (w.alloc (.cells #[.slice A n c, .slice (some ⟨gb, 0, none⟩) m m] 31)) = W0 at hW x0 x1 ⊢
      refine (implValidScript_any A n c ss _ m m xs _ (h.below hW) (h2.below hW) hn hm hz).mono ?_
      rintro e w2 ⟨rfl, hb2⟩
      replace x0 := (hb2.cell (World.block_lt_of_cell? _ _ x0)).trans x0
      replace x1 := (hb2.cell (World.block_lt_of_cell? _ _ x1)).trans x1
      replace hW := below_step hW hb2
      rw [qv]
      go_wp2_with fail
      refine (within_any _ _ _ _).mono ?_
      rintro e w3 ⟨rfl, rfl⟩
      rw [qt]
      go_wp2_with fail
      go_ret2
      rw [HC.out, HV.out]
      exact RetOwnC.none_ hW
    · have HC : Hid (saCode ss xs t = 0) := by rw [Hid, saCode, if_neg (by rw [qv]; decide), if_neg (by rw [qt]; decide)]
      go_enter Try.func9, Try.ntmps9
      go_wp2_with fail
      generalize (w.alloc (.cells #[.slice A n c, .slice (some ⟨gb, 0, none⟩) m m] 31)) = W0 at hW x0 x1 ⊢
      refine (implValidScript_any A n c ss _ m m xs _ (h.below hW) (h2.below hW) hn hm hz).mono ?_
      rintro e w2 ⟨rfl, hb2⟩
      replace x0 := (hb2.cell (World.block_lt_of_cell? _ _ x0)).trans x0
      replace x1 := (hb2.cell (World.block_lt_of_cell? _ _ x1)).trans x1
      replace hW := below_step hW hb2
      rw [qv]
      go_wp2_with fail
      refine (within_any _ _ _ _).mono ?_
      rintro e w3 ⟨rfl, rfl⟩
      rw [qt]
      go_wp2_with fail
      go_loop [6] (fun i => ∃ k : Nat, k ≤ m ∧ i = .int .i64 k ∧ Hid (∀ (i : Nat) x, i < k → xs[i]? = some x → x.1 ≤ t)) (fun i => m - (intOf i).toNat)
      case atStart => exact ⟨0, by omega, rfl, by intro i x hi; omega⟩
      case round =>
        obtain ⟨k, hk, rfl, hA⟩ := hrel
        by_cases hlt : k < m
        · obtain ⟨b, off, x, hbo, hx, hmm, d0, d1, d2, d3⟩ := (h2.below hW).atAct hlt
          cases hbo
          rw [Nat.zero_add] at d0
          have HX := Lib.hid hx
          clear hx hmm
          by_cases hle : x.1 ≤ t
          · go_wp2_with fail
            go_round
            case rel =>
              refine ⟨k + 1, by omega, by go_num, ?_⟩
              intro i s hi hs
              rcases Nat.lt_succ_iff_lt_or_eq.1 hi with hi | rfl
              · exact hA i s hi hs
              · rw [HX.out] at hs; cases hs; exact hle
            case measure => simp [intOf]; omega
          · clear d1 d2 d3
            have HCUT : Hid (cutN xs t = k) := cutN_eq (by rw [h2.1]; exact hk) hA.out (.inr ⟨x, HX.out, by omega⟩)
            have hB : w.heap.size + 1 ≤ w2.heap.size := by have := World.block_lt_of_cell? _ _ x0; exact this
            have x0a := cell_al x0
            have x1a := cell_al x1
            go_wp2_with fail
            clear x0a x1a
            go_loopw [7, 39] (fun o i wr => ∃ z : Nat, ∃ v : Value, z ≤ n ∧ i = .int .i64 z ∧ o = v ∧ Own wr (w.heap.size + 1) 9 1 eS v ((ss.take z).filter (saP xs t)) ∧ Below (w.heap.size + 1) w2 wr) (fun _ i _ => n - (intOf i).toNat)
            case atStart => exact ⟨0, _, by omega, rfl, rfl, Own.lit (enc := eS) (k := 1) w2 #[] 9 [] 0 hB rfl (by unfold maxLen; omega) eS_len rfl, below_al hB _⟩
            case round =>
              obtain ⟨z, v, hzn, rfl, rfl, ho, hb0⟩ := hrel
              have hb := hW.trans (hb0.mono (Nat.le_succ _))
              have y0 := (hb0.cell (p := ⟨w.heap.size, 0, none⟩) (Nat.lt_succ_self _)).trans x0
              have y1 := (hb0.cell (p := ⟨w.heap.size, 1, none⟩) (Nat.lt_succ_self _)).trans x1
              have HLE := Lib.hid (filter_len ss z (saP xs t))
              by_cases hlt2 : z < n
              · obtain ⟨b, off, x, rfl, hx, hmm, c0⟩ := (h.below hb).atS hlt2
                have HX := Lib.hid hx
                clear hx hmm
                have g1 : (0 : Int) ≤ (z : Int) := by omega
                have g2 : (z : Int) < (n : Int) := by omega
                have g3 : (0 : Int) ≤ (k : Int) := by omega
                have g4 : (k : Int) ≤ (m : Int) := by omega
                cases qs : isSh (xs.take k) x
                · have HF := Lib.hid (filter_no (p := saP xs t) HX.out (by rw [saP, HCUT.out]; exact qs))
                  have hcl := isShown_any (some ⟨gb, 0, none⟩) k m (xs.take k) x wr ((h2.below hb).take hk) (by omega)
                  rw [qs] at hcl
                  go_wp2_with fail
                  refine hcl.mono ?_
                  rintro e w4 ⟨rfl, rfl⟩
                  clear hcl
                  go_wp2_with fail
                  go_wp2_with fail
                  go_roundw
                  case rel => exact ⟨z + 1, _, by omega, by go_num, rfl, by rw [HF.out]; exact ho, hb0⟩
                  case measure => simp [intOf]; omega
                · have HF := Lib.hid (filter_yes (p := saP xs t) HX.out (by rw [saP, HCUT.out]; exact qs))
                  have hcl := isShown_any (some ⟨gb, 0, none⟩) k m (xs.take k) x wr ((h2.below hb).take hk) (by omega)
                  rw [qs] at hcl
                  go_wp2_with fail
                  refine hcl.mono ?_
                  rintro e w4 ⟨rfl, rfl⟩
                  clear hcl
                  have hsz := Nat.le_trans hB hb0.size
                  go_wp2_with (at_builtin; refine wpList_app1x rfl (.tmp 49) (.tmp 51) 22 9 rfl (w.heap.size + 1) i0 _ 1 16 Try.underlying22 hi0 hz0 hz1 hz2 rfl (by omega) eS eS_len eS_one _ ((ss.take z).filter (saP xs t)) rfl (ho.alloc _) x _ _ rfl (newcell _ _ _ _ rfl) (by have := HLE.out; omega) (by have := HLE.out; unfold maxLen; omega) (Nat.le_trans (by exact hsz) (below_alloc _ _).size) ?_; intro v9 w9 ho9 hb9 hg9 hv9)
                  go_roundw
                  case rel => exact ⟨z + 1, _, by omega, by go_num, rfl, by rw [HF.out]; exact ho9, hb0.trans ((below_al (by exact hsz) _).trans hb9)⟩
                  case measure => simp [intOf]; omega
              · have : z = n := by omega
                subst this
                have HTK : Hid ((ss.take z).filter (saP xs t) = saVal ss xs t) := by rw [Hid, saVal, if_pos HC.out, List.take_of_length_le (by rw [h.1]; exact Nat.le_refl _)]
                rw [HTK.out] at ho
                go_wp2_with fail
                go_ret2
                rw [HC.out]
                exact RetOwnC.mk (ho.mono (Nat.le_succ _)) hb
        · have hkm : Hid (k = m) := by rw [Hid]; omega
          have HCUT : Hid (cutN xs t = k) := cutN_eq (by rw [h2.1]; exact hk) hA.out (.inl (by rw [h2.1]; exact hkm.out))
          have hB : w.heap.size + 1 ≤ w2.heap.size := by have := World.block_lt_of_cell? _ _ x0; exact this
          have x0a := cell_al x0
          have x1a := cell_al x1
          go_wp2_with fail
          clear x0a x1a
          go_loopw [7, 39] (fun o i wr => ∃ z : Nat, ∃ v : Value, z ≤ n ∧ i = .int .i64 z ∧ o = v ∧ Own wr (w.heap.size + 1) 9 1 eS v ((ss.take z).filter (saP xs t)) ∧ Below (w.heap.size + 1) w2 wr) (fun _ i _ => n - (intOf i).toNat)
          case atStart => exact ⟨0, _, by omega, rfl, rfl, Own.lit (enc := eS) (k := 1) w2 #[] 9 [] 0 hB rfl (by unfold maxLen; omega) eS_len rfl, below_al hB _⟩
          case round =>
            obtain ⟨z, v, hzn, rfl, rfl, ho, hb0⟩ := hrel
            have hb := hW.trans (hb0.mono (Nat.le_succ _))
            have y0 := (hb0.cell (p := ⟨w.heap.size, 0, none⟩) (Nat.lt_succ_self _)).trans x0
            have y1 := (hb0.cell (p := ⟨w.heap.size, 1, none⟩) (Nat.lt_succ_self _)).trans x1
            have HLE := Lib.hid (filter_len ss z (saP xs t))
            by_cases hlt2 : z < n
            · obtain ⟨b, off, x, rfl, hx, hmm, c0⟩ := (h.below hb).atS hlt2
              have HX := Lib.hid hx
              clear hx hmm
              have g1 : (0 : Int) ≤ (z : Int) := by omega
              have g2 : (z : Int) < (n : Int) := by omega
              have g3 : (0 : Int) ≤ (k : Int) := by omega
              have g4 : (k : Int) ≤ (m : Int) := by omega
              cases qs : isSh (xs.take k) x
              · have HF := Lib.hid (filter_no (p := saP xs t) HX.out (by rw [saP, HCUT.out]; exact qs))
                have hcl := isShown_any (some ⟨gb, 0, none⟩) k m (xs.take k) x wr ((h2.below hb).take hk) (by omega)
                rw [qs] at hcl
                go_wp2_with fail
                refine hcl.mono ?_
                rintro e w4 ⟨rfl, rfl⟩
                clear hcl
                go_wp2_with fail
                go_wp2_with fail
                go_roundw
                case rel => exact ⟨z + 1, _, by omega, by go_num, rfl, by rw [HF.out]; exact ho, hb0⟩
                case measure => simp [intOf]; omega
              · have HF := Lib.hid (filter_yes (p := saP xs t) HX.out (by rw [saP, HCUT.out]; exact qs))
                have hcl := isShown_any (some ⟨gb, 0, none⟩) k m (xs.take k) x wr ((h2.below hb).take hk) (by omega)
                rw [qs] at hcl
                go_wp2_with fail
                refine hcl.mono ?_
                rintro e w4 ⟨rfl, rfl⟩
                clear hcl
                have hsz := Nat.le_trans hB hb0.size
                go_wp2_with (at_builtin; refine wpList_app1x rfl (.tmp 49) (.tmp 51) 22 9 rfl (w.heap.size + 1) i0 _ 1 16 Try.underlying22 hi0 hz0 hz1 hz2 rfl (by omega) eS eS_len eS_one _ ((ss.take z).filter (saP xs t)) rfl (ho.alloc _) x _ _ rfl (newcell _ _ _ _ rfl) (by have := HLE.out; omega) (by have := HLE.out; unfold maxLen; omega) (Nat.le_trans (by exact hsz) (below_alloc _ _).size) ?_; intro v9 w9 ho9 hb9 hg9 hv9)
                go_roundw
                case rel => exact ⟨z + 1, _, by omega, by go_num, rfl, by rw [HF.out]; exact ho9, hb0.trans ((below_al (by exact hsz) _).trans hb9)⟩
                case measure => simp [intOf]; omega
            · have : z = n := by omega
              subst this
              have HTK : Hid ((ss.take z).filter (saP xs t) = saVal ss xs t) := by rw [Hid, saVal, if_pos HC.out, List.take_of_length_le (by rw [h.1]; exact Nat.le_refl _)]
              rw [HTK.out] at ho
              go_wp2_with fail
              go_ret2
              rw [HC.out]
              exact RetOwnC.mk (ho.mono (Nat.le_succ _)) hb

end Go.Proofs.Ytccddejbbdciiaa
