/-
  AssignLanterns of the reference.
-/
import Derived.Test.YtcfbnlkkoifiiaaAsF
import Derived.Test.YtcfbnlkkoifiiaaShA
import Derived.Deep.OwnRows
namespace Go.Proofs.Ytcfbnlkkoifiiaa
open Go.RowKit

theorem asK0_len1 {xs : List (Int × Int × Int)} {n : Nat} (h : Hid (xs.length = n)) : (asK xs 0).1.length = n := by rw [asK_len1, h.out]
theorem frK_stop {free : List Int} {v : Int} {k : Nat} {t : Int} (h : (free.take k).any (fun t => decide (t ≤ v)) = false) (hx : free[k]? = some t) (ht : t ≤ v) : frK free v = k := by
  obtain ⟨hk, rfl⟩ := List.getElem?_eq_some_iff.1 hx
  rw [frK, (List.findIdx_eq hk).2 ⟨by simpa using ht, fun j hj => ?_⟩]
  have := List.any_eq_false.1 h free[j] (List.mem_take_iff_getElem.2 ⟨j, by omega, rfl⟩)
  simpa using this
theorem frK_all {free : List Int} {v : Int} (h : (free.take free.length).any (fun t => decide (t ≤ v)) = false) : frK free v = free.length := by
  rw [List.take_length] at h
  refine List.findIdx_eq_length.2 fun x hx => ?_
  simpa using List.any_eq_false.1 h x hx

set_option maxHeartbeats 3200000 in
theorem specAssignLanterns_any (A : Option Addr) (n c : Nat) (xs : List (Int × Int × Int)) (w : World) (h : Sl w 3 e3 A n xs) (hn : n ≤ 1048577) :
    Calls Try.prog 6 #[.slice A n c] w (RetOwnC 2 1 e1 (alVal xs) (alCode xs) w) := by
  obtain ⟨i1, hi1, hy0, hy1, hy2⟩ := info_parts infoI64
  cases hok : shOk xs
  · have HV : Hid (alVal xs = []) := by rw [Hid, alVal, hok]; rfl
    have HC : Hid (alCode xs = 1) := by rw [Hid, alCode, hok]; rfl
    go_enter Try.func6, Try.ntmps6
    go_wp2_with fail
    refine (l15Ok_any A n c xs _ h hn).mono ?_
    rintro e w2 ⟨rfl, hb2⟩
    go_wp2_with fail
    go_ret2
    rw [HV.out, HC.out]
    exact RetOwnC.none_ hb2
  · have ok := shOk_iff.1 hok
    have HXL : Hid (xs.length = n) := h.1
    have hn12 : n ≤ 12 := by rw [← h.1]; exact ok.len
    have HV : Hid (alVal xs = (asK xs n).1) := by rw [Hid, alVal, hok, if_pos rfl, HXL.out]
    have HC : Hid (alCode xs = 0) := by rw [Hid, alCode, hok]; rfl
    have hmk := fun w => run_make_row' (P := Try.prog) 24 2 (.int .i64 0) 8 Try.underlying24 infoI64 rfl .i64 .i64 n (by omega) (by omega) w
    go_enter Try.func6, Try.ntmps6
    go_wp2_with fail
    refine (l15Ok_any A n c xs _ h hn).mono ?_
    rintro e w2 ⟨rfl, hb2⟩
    go_wp2_with fail
    have oM : Own ((w2.alloc (.cells (madeCells #[.int .i64 0] n) 2)).alloc (.cells #[] 2)) w2.heap.size 2 1 e1 (.slice (some ⟨w2.heap.size, 0, none⟩) n n) (asK xs 0).1 := (Own.lit w2 _ _ _ n (Nat.le_refl _) (asK0_len1 HXL) (by simp [maxLen]; omega) e1_len (by rw [asK_zero, HXL.out]; simpa [e1] using madeK e1_len (by omega) (0 : Int) n)).alloc _
    have oF : Own ((w2.alloc (.cells (madeCells #[.int .i64 0] n) 2)).alloc (.cells #[] 2)) w2.heap.size 2 1 e1 (.slice (some ⟨w2.heap.size + 1, 0, none⟩) 0 0) (asK xs 0).2 := by
      have := Own.lit (w2.alloc (.cells (madeCells #[.int .i64 0] n) 2)) #[] 2 ([] : List Int) (base := w2.heap.size) 0 (by simp) rfl (by simp [maxLen]) e1_len rfl
      rwa [show (w2.alloc (.cells (madeCells #[.int .i64 0] n) 2)).heap.size = w2.heap.size + 1 from by simp] at this
    have hbM : Below w2.heap.size w2 ((w2.alloc (.cells (madeCells #[.int .i64 0] n) 2)).alloc (.cells #[] 2)) := (below_alloc _ _).alloc (by simp) _
    refine (l15Order_any A n c xs _ (((h.below hb2).alloc _).alloc _) hn12).mono ?_
    rintro e w3 ⟨Ao, no, co, rfl, ho, hb3⟩
    obtain rfl : no = n := by rw [← (ho.sl e1_len).1, toZ_len, ordI_len]
    have HL2 := Lib.hid (h.below hb2)
    have HLO : Hid (∀ q, (Value.slice Ao no co).ownBlock = some q → w2.heap.size + 2 ≤ q) := fun q hq => by have := (ho.lt q hq).1; simpa using this
    have hF0 := oF.below hb3
    have hO0 := oM.below hb3
    have hS0 := ho.sl e1_len
    have hbI := hbM.trans (hb3.mono hbM.size)
    clear oM oF ho hb3 hbM hmk
    go_wp2_with fail
    go_loopw [5, 7] (fun v5 i wr => ∃ j : Nat, j ≤ no ∧ i = .int .i64 j ∧ Own wr w2.heap.size 2 1 e1 v5 (asK xs j).2 ∧ Own wr w2.heap.size 2 1 e1 (.slice (some ⟨w2.heap.size, 0, none⟩) no no) (asK xs j).1 ∧ Sl wr 1 e1 Ao no (toZ (ordL (onI xs) (List.range no))) ∧ Hid (v5.ownBlock ≠ some w2.heap.size) ∧ Hid (∀ q, (Value.slice Ao no co).ownBlock = some q → v5.ownBlock ≠ some q) ∧ Below w2.heap.size w2 wr) (fun _ i _ => no - (intOf i).toNat)
    case atStart => exact ⟨0, by omega, rfl, hF0, hO0, hS0, (fun e => by have e2 : w2.heap.size + 1 = w2.heap.size := Option.some.inj e; omega), (fun q hq e => by have := HLO.out q hq; have e2 : w2.heap.size + 1 = q := Option.some.inj e; omega), hbI⟩
    case round =>
      obtain ⟨j, hj, rfl, hF, hO, hS, D65, D46, hbj⟩ := hrel
      by_cases hjk : j < no
      · obtain ⟨bo, offo, x0, rfl, hx, _, d0⟩ := hS.at1 hjk
        have HI0 := Lib.hid hx
        obtain ⟨i, hi, rfl⟩ : ∃ i, (ordL (onI xs) (List.range no))[j]? = some i ∧ x0 = (i : Int) := by
          rw [toZ, List.getElem?_map] at hx
          cases hq : (ordL (onI xs) (List.range no))[j]? with
          | none => rw [hq] at hx; cases hx
          | some i => rw [hq] at hx; injection hx with hx; exact ⟨i, rfl, hx.symm⟩
        have HI : Hid ((toZ (ordL (onI xs) (List.range no)))[j]? = some (i : Int)) := HI0.out
        have hik : i < no := List.mem_range.1 (ordL_mem (List.mem_of_getElem? hi))
        have HST : Hid (asK xs (j + 1) = asF xs (asK xs j) i) := asK_step (by rw [HXL.out]; exact hi)
        have HB4 : Hid (bo ≠ w2.heap.size) := fun e => by have := HLO.out bo rfl; omega
        clear hx hi HI0
        have hm12 : (asK xs j).2.length ≤ 12 := by have := asK_len2 xs j; omega
        generalize asK xs j = st at HST hm12 hF hO
        obtain ⟨A6', c6', hv6, _, _, hu6⟩ := hF.val
        subst hv6
        clear hu6
        have hLj := HL2.out.below hbj
        obtain ⟨bA, offA, x, hA, hxi, _, c0, c1, c2⟩ := hLj.at3 hik
        subst hA
        have HON : Hid (onI xs i = x.1) := onI_get hxi
        have HOFF : Hid (offI xs i = x.2.1) := offI_get hxi
        clear hxi
        have HO1 : Hid (st.1.length = no) := by
          obtain ⟨_, _, hv, _⟩ := hO.val
          injection hv with _ hv _
          exact hv.symm
        obtain ⟨z, hz⟩ : ∃ z, st.1[i]? = some z := ⟨_, List.getElem?_eq_getElem (by rw [HO1.out]; exact hik)⟩
        have HZ := Lib.hid hz
        clear hz
        have g3 : (0 : Int) ≤ (i : Int) := by omega
        have g4 : (i : Int) < (no : Int) := by omega
        have HL6 : Hid (∀ q, (Value.slice A6' st.2.length c6').ownBlock = some q → q < wr.heap.size) := fun q hq => (hF.lt q hq).2
        have HP3 : Hid (∀ q, (Value.slice A6' st.2.length c6').ownBlock = some q → wr.heap.size ≠ q) := fun q hq e => by have := (hF.lt q hq).2; omega
        have HWR : Hid (w2.heap.size ≤ wr.heap.size) := hbj.size
        have HBO : Hid (bo < wr.heap.size) := hS.lt (by omega) _ rfl
        have HGO : Hid (w2.heap.size < wr.heap.size) := hO.blt.2
        have hst : asF xs st i = (st.1.set i (frK st.2 (onI xs i) : Int), (if frK st.2 (onI xs i) = st.2.length then st.2 ++ [0] else st.2).set (frK st.2 (onI xs i)) (offI xs i)) := rfl
        have HSF := Lib.hid hst
        clear hst
        go_wp2_with fail
        go_loopw [9] (fun v wx => ∃ q : Nat, q ≤ st.2.length ∧ v = .int .i64 q ∧ Hid ((st.2.take q).any (fun t => decide (t ≤ onI xs i)) = false) ∧ wx.cell? ⟨wr.heap.size, 0, none⟩ = some (.int .i64 x.1) ∧ wx.cell? ⟨wr.heap.size, 1, none⟩ = some (.int .i64 x.2.1) ∧ Own wx w2.heap.size 2 1 e1 (.slice A6' st.2.length c6') st.2 ∧ Own wx w2.heap.size 2 1 e1 (.slice (some ⟨w2.heap.size, 0, none⟩) no no) st.1 ∧ Sl wx 1 e1 (some ⟨bo, offo, none⟩) no (toZ (ordL (onI xs) (List.range no))) ∧ Below w2.heap.size w2 wx ∧ wr.heap.size < wx.heap.size) (fun v _ => st.2.length - (intOf v).toNat)
        case atStart => exact ⟨0, by omega, rfl, by simp [Hid], newcell wr #[.int .i64 x.1, .int .i64 x.2.1, .int .i64 x.2.2] _ _ rfl 0, newcell wr #[.int .i64 x.1, .int .i64 x.2.1, .int .i64 x.2.2] _ _ rfl 1, hF.alloc _, hO.alloc _, hS.alloc _, hbj.alloc hbj.size _, by simp⟩
        case round =>
          obtain ⟨q, hq, rfl, he, hc0, hc1, hFq, hOq, hSq, hbq, hszq⟩ := hrel
          have g1 : (0 : Int) ≤ (q : Int) := by omega
          by_cases hlt : q < st.2.length
          · obtain ⟨g6, rfl⟩ : ∃ g6, A6' = some ⟨g6, 0, none⟩ := by
              rcases hFq.form with ⟨_, h, _⟩ | h
              · omega
              · exact h
            obtain ⟨t, ht⟩ : ∃ t, st.2[q]? = some t := ⟨_, List.getElem?_eq_getElem hlt⟩
            have d5 := (hFq.sl e1_len).get1 ht
            simp only [Nat.zero_add] at d5
            have HT := Lib.hid ht
            clear ht
            have gq : decide ((q : Int) < (st.2.length : Int)) = true := decide_eq_true (by omega)
            have gqN : decide (q < st.2.length) = true := decide_eq_true hlt
            have g2 : (q : Int) < (st.2.length : Int) := by omega
            cases hg : decide (x.1 < t)
            · have HQ : Hid (frK st.2 (onI xs i) = q) := frK_stop he.out HT.out (by rw [HON.out]; simpa using hg)
              have HSX : Hid (asK xs (j + 1) = (st.1.set i (q : Int), st.2.set q (offI xs i))) := by rw [Hid, HST.out, HSF.out, HQ.out, if_neg (by omega)]
              have hne3 := HP3.out g6 rfl
              go_wp2_with fail
              go_quiet (fail)
              generalize hW : wr.drewN nq = wt
              have hFt : Own wt w2.heap.size 2 1 e1 (.slice (some ⟨g6, 0, none⟩) st.2.length c6') st.2 := by rw [← hW]; exact hFq.drewN _
              have hOt : Own wt w2.heap.size 2 1 e1 (.slice (some ⟨w2.heap.size, 0, none⟩) no no) st.1 := by rw [← hW]; exact hOq.drewN _
              have hSt : Sl wt 1 e1 (some ⟨bo, offo, none⟩) no (toZ (ordL (onI xs) (List.range no))) := by rw [← hW]; exact hSq.drewN _
              have hbt : Below w2.heap.size w2 wt := by rw [← hW]; exact below_drewN hbq _
              have hszt := hszq
              rw [show wr.heap.size = wt.heap.size from by rw [← hW]; rfl] at hszt
              have k0 := hc0
              have k1 := hc1
              rw [show wr.cell? = wt.cell? from by rw [← hW]; rfl] at k0 k1
              clear hW hFq hOq hSq hbq hc0 hc1 hszq d5
              rw [← HOFF.out] at k1
              obtain ⟨y, hy⟩ : ∃ y, st.2[q]? = some y := ⟨_, List.getElem?_eq_getElem (by exact hlt)⟩
              have d6 := hFt.cell e1_len hy (j := 0) (u := .int .i64 y) rfl
              have d7 := hOt.cell e1_len HZ.out (j := 0) (u := .int .i64 z) rfl
              have d8 := hSt.get1 HI.out
              simp only [Nat.mul_one, Nat.add_zero] at d6 d7
              have f6 := hFt.free q
              have f7 := hOt.free i
              have hn1 : g6 ≠ w2.heap.size := fun e => D65.out (congrArg some e)
              have hn2 : w2.heap.size ≠ g6 := fun e => hn1 e.symm
              have hn3 : bo ≠ g6 := fun e => D46.out bo rfl (congrArg some e.symm)
              have hn4 : bo ≠ w2.heap.size := HB4.out
              have g1 : (0 : Int) ≤ (q : Int) := by omega
              have g2 : (q : Int) < (st.2.length : Int) := by omega
              clear hy
              go_wp2_with fail
              clear d6 d7 d8 f6 f7
              go_roundw
              case rel =>
                refine ⟨j + 1, by omega, by go_num, ?_, ?_, ?_, D65.out, D46.out, ?_⟩
                · rw [HSX.out]
                  exact (hFt.set1 q (offI xs i)).setc ⟨w2.heap.size, i, none⟩ _ (fun q hq e => hn2 (by injection hq with hq; exact e.symm.trans hq.symm))
                · rw [HSX.out]
                  exact (hOt.setc ⟨g6, q, none⟩ _ (fun q hq e => hn2 (by injection hq with hq; exact hq.trans e))).set1 i (q : Int)
                · exact (hSt.setCell (p := ⟨g6, q, none⟩) (fun a ha e => hn3 (show bo = g6 from by injection ha with ha; rw [← ha] at e; exact e)) _).setCell (p := ⟨w2.heap.size, i, none⟩) (fun a ha e => hn4 (show bo = w2.heap.size from by injection ha with ha; rw [← ha] at e; exact e)) _
                · exact (hbt.setCell (by exact hFt.blt.1) _).setCell (by exact Nat.le_refl _) _
              case measure => simp [intOf]; omega
            · have HE2 : Hid ((st.2.take (q + 1)).any (fun t => decide (t ≤ onI xs i)) = false) := by
                have hgt : x.1 < t := by simpa using hg
                rw [Hid, any_step _ HT.out, he.out, HON.out, Bool.false_or]
                exact decide_eq_false (by omega)
              go_wp2_with fail
              go_quiet (fail)
              generalize hW : wr.drewN nq = wt
              have hFt : Own wt w2.heap.size 2 1 e1 (.slice (some ⟨g6, 0, none⟩) st.2.length c6') st.2 := by rw [← hW]; exact hFq.drewN _
              have hOt : Own wt w2.heap.size 2 1 e1 (.slice (some ⟨w2.heap.size, 0, none⟩) no no) st.1 := by rw [← hW]; exact hOq.drewN _
              have hSt : Sl wt 1 e1 (some ⟨bo, offo, none⟩) no (toZ (ordL (onI xs) (List.range no))) := by rw [← hW]; exact hSq.drewN _
              have hbt : Below w2.heap.size w2 wt := by rw [← hW]; exact below_drewN hbq _
              have hszt := hszq
              rw [show wr.heap.size = wt.heap.size from by rw [← hW]; rfl] at hszt
              have k0 := hc0
              have k1 := hc1
              rw [show wr.cell? = wt.cell? from by rw [← hW]; rfl] at k0 k1
              clear hW hFq hOq hSq hbq hc0 hc1 hszq d5
              go_wp2_with fail
              go_roundw
              case rel => exact ⟨q + 1, by omega, by go_num, HE2, k0, k1, hFt, hOt, hSt, hbt, hszt⟩
              case measure => simp [intOf]; omega
          · obtain rfl : q = st.2.length := by omega
            have HQ : Hid (frK st.2 (onI xs i) = st.2.length) := frK_all he.out
            have HSX : Hid (asK xs (j + 1) = (st.1.set i (st.2.length : Int), (st.2 ++ [0]).set st.2.length (offI xs i))) := by rw [Hid, HST.out, HSF.out, HQ.out, if_pos rfl]
            have gq : decide ((st.2.length : Int) < (st.2.length : Int)) = false := decide_eq_false (by omega)
            have gqN : decide (st.2.length < st.2.length) = false := decide_eq_false (by omega)
            go_wp2_with fail
            go_quiet (fail)
            generalize hW : wr.drewN nq = wt
            have hFt : Own wt w2.heap.size 2 1 e1 (.slice A6' st.2.length c6') st.2 := by rw [← hW]; exact hFq.drewN _
            have hOt : Own wt w2.heap.size 2 1 e1 (.slice (some ⟨w2.heap.size, 0, none⟩) no no) st.1 := by rw [← hW]; exact hOq.drewN _
            have hSt : Sl wt 1 e1 (some ⟨bo, offo, none⟩) no (toZ (ordL (onI xs) (List.range no))) := by rw [← hW]; exact hSq.drewN _
            have hbt : Below w2.heap.size w2 wt := by rw [← hW]; exact below_drewN hbq _
            have hszt := hszq
            rw [show wr.heap.size = wt.heap.size from by rw [← hW]; rfl] at hszt
            have k0 := hc0
            have k1 := hc1
            rw [show wr.cell? = wt.cell? from by rw [← hW]; rfl] at k0 k1
            clear hW hFq hOq hSq hbq hc0 hc1 hszq
            rw [← HOFF.out] at k1
            have HWT := Lib.hid hszt
            go_wp2_with
              (at_builtin
               refine wpList_app1x rfl (.tmp 51) (.tmp 52) 24 2 rfl w2.heap.size i1 _ 1 8 Try.underlying24 hi1 hy0 hy1 hy2 rfl (by decide) e1 e1_len e1_one _ st.2 rfl (hFt.alloc _) (0 : Int) _ _ rfl (newcell _ _ _ _ rfl) (by omega) (by unfold maxLen; omega) (Nat.le_trans hbt.size (below_alloc _ _).size) ?_
               intro v9 w9 hF9 hb9' hg9 hv9
               have hb9 := (hbt.alloc hbt.size _).trans hb9'
               have hSt9 := (hSt.alloc _).grown hg9 (fun a ha e => D46.out a.block (by injection ha with ha; rw [← ha]; rfl) e)
               have hOt9 := (hOt.alloc _).grown hg9 (.inr fun e => D65.out e.symm)
               have k09 := (World.cell?_of_block (hg9.block _ (by rw [World.size_alloc]; exact Nat.lt_succ_of_lt HWT.out) (fun e => HP3.out _ e.symm rfl))).trans (cell_al k0 _)
               have k19 := (World.cell?_of_block (hg9.block _ (by rw [World.size_alloc]; exact Nat.lt_succ_of_lt HWT.out) (fun e => HP3.out _ e.symm rfl))).trans (cell_al k1 _)
               obtain ⟨A9, c9, hv, _, _, _⟩ := hF9.val
               rw [List.length_append, List.length_singleton] at hv
               subst hv
               obtain ⟨g6, rfl⟩ : ∃ g6, A9 = some ⟨g6, 0, none⟩ := by
                 rcases hF9.form with ⟨_, h, _⟩ | h
                 · omega
                 · exact h
               have E65 : Hid ((Value.slice (some ⟨g6, 0, none⟩) (st.2.length + 1) c9).ownBlock ≠ some w2.heap.size) := by
                 intro e
                 rcases hv9 with h | h
                 · exact D65.out (h.symm.trans e)
                 · rw [h, World.size_alloc] at e
                   have e2 : wt.heap.size + 1 = w2.heap.size := Option.some.inj e
                   have := hbt.size
                   omega
               have E46 : Hid (∀ q, (Value.slice (some ⟨bo, offo, none⟩) no co).ownBlock = some q → (Value.slice (some ⟨g6, 0, none⟩) (st.2.length + 1) c9).ownBlock ≠ some q) := by
                 intro q hq e
                 rcases hv9 with h | h
                 · exact D46.out q hq (h.symm.trans e)
                 · rw [h, World.size_alloc] at e
                   have e2 : wt.heap.size + 1 = q := Option.some.inj e
                   have h6 : bo = q := Option.some.inj hq
                   have h7 : bo < wt.heap.size := hSt.lt (by omega) _ rfl
                   omega
               have hp3 := hv9.elim (fun h => HP3.out g6 h.symm) (fun h e => by
                 have e3 := (Option.some.inj h).symm.trans e.symm
                 rw [World.size_alloc] at e3
                 have := HWT.out
                 omega)
               replace hFt := hF9
               replace hOt := hOt9
               replace hSt := hSt9
               replace hbt := hb9
               replace k0 := k09
               replace k1 := k19
               clear hF9 hOt9 hSt9 hb9 hb9' hg9 hv9 k09 k19
               obtain ⟨y, hy⟩ : ∃ y, (st.2 ++ [(0 : Int)])[st.2.length]? = some y := ⟨_, List.getElem?_eq_getElem (by simp)⟩
               have d6 := hFt.cell e1_len hy (j := 0) (u := .int .i64 y) rfl
               have d7 := hOt.cell e1_len HZ.out (j := 0) (u := .int .i64 z) rfl
               have d8 := hSt.get1 HI.out
               simp only [Nat.mul_one, Nat.add_zero] at d6 d7
               have f6 := hFt.free st.2.length
               have f7 := hOt.free i
               have hn1 : g6 ≠ w2.heap.size := fun e => E65.out (congrArg some e)
               have hn2 : w2.heap.size ≠ g6 := fun e => hn1 e.symm
               have hn3 : bo ≠ g6 := fun e => E46.out bo rfl (congrArg some e.symm)
               have hn4 : bo ≠ w2.heap.size := HB4.out
               have g1 : (0 : Int) ≤ (st.2.length : Int) := by omega
               have g2 : (st.2.length : Int) < ((st.2.length + 1 : Nat) : Int) := by omega
               clear hy)
            clear d6 d7 d8 f6 f7
            go_roundw
            case rel =>
              refine ⟨j + 1, by omega, by go_num, ?_, ?_, ?_, E65.out, E46.out, ?_⟩
              · rw [HSX.out]
                exact (hFt.set1 st.2.length (offI xs i)).setc ⟨w2.heap.size, i, none⟩ _ (fun q hq e => hn2 (by injection hq with hq; exact e.symm.trans hq.symm))
              · rw [HSX.out]
                exact (hOt.setc ⟨g6, st.2.length, none⟩ _ (fun q hq e => hn2 (by injection hq with hq; exact hq.trans e))).set1 i (st.2.length : Int)
              · exact (hSt.setCell (p := ⟨g6, st.2.length, none⟩) (fun a ha e => hn3 (show bo = g6 from by injection ha with ha; rw [← ha] at e; exact e)) _).setCell (p := ⟨w2.heap.size, i, none⟩) (fun a ha e => hn4 (show bo = w2.heap.size from by injection ha with ha; rw [← ha] at e; exact e)) _
              · exact (hbt.setCell (by exact hFt.blt.1) _).setCell (by exact Nat.le_refl _) _
            case measure => simp [intOf]; omega
      · obtain rfl : j = no := by omega
        go_wp2_with fail
        go_ret2
        rw [HV.out, HC.out]
        exact RetOwnC.mk (hO.mono hb2.size) (hb2.trans (hbj.mono hb2.size))

end Go.Proofs.Ytcfbnlkkoifiiaa
