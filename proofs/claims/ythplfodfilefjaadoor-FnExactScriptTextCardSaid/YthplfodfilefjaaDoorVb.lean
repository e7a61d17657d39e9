/-
  Scripts: which are valid, the program's side.
-/
import Derived.Test.YthplfodfilefjaaDoorVa
namespace Go.Proofs.YthplfodfilefjaaDoor
set_option maxRecDepth 100000
open Go.RowKit Go.Deep Go.Joins

set_option maxHeartbeats 1000000 in
theorem implValidScript_any (A : Option Addr) (n c : Nat) (ss : List ByteArray) (B : Option Addr) (m d : Nat) (xs : List AX) (w : World) (h : Sl w 1 eS A n ss) (h2 : Sl w 4 eAct B m xs) (hn : n ≤ 1048577) (hm : m ≤ 1048577) (hz : ∀ s ∈ ss, s.size ≤ maxLen) :
    Calls Tryd.prog 25 #[.agg #[.slice A n c, .slice B m d]] w fun e w' => e = .returned (.bool (vScr ss xs)) ∧ Below w.heap.size w w' := by
  have hB0 : w.heap.size ≤ w.heap.size + 1 := Nat.le_succ _
  have hW : Below w.heap.size w ((w.alloc (.cells #[.slice A n c, .slice B m d] 30)).alloc (.cells #[.slice none 0 0, .slice none 0 0] 30)) := (below_alloc w _).alloc (by simp) _
  have v0 : ((w.alloc (.cells #[.slice A n c, .slice B m d] 30)).alloc (.cells #[.slice none 0 0, .slice none 0 0] 30)).cell? ⟨w.heap.size, 0, none⟩ = some (.slice A n c) := by simp [go_sem]
  have v1 : ((w.alloc (.cells #[.slice A n c, .slice B m d] 30)).alloc (.cells #[.slice none 0 0, .slice none 0 0] 30)).cell? ⟨w.heap.size, 1, none⟩ = some (.slice B m d) := by simp [go_sem]
  have x0 : ((w.alloc (.cells #[.slice A n c, .slice B m d] 30)).alloc (.cells #[.slice none 0 0, .slice none 0 0] 30)).cell? ⟨w.heap.size + 1, 0, none⟩ = some (.slice none 0 0) := by simp [go_sem]
  have x1 : ((w.alloc (.cells #[.slice A n c, .slice B m d] 30)).alloc (.cells #[.slice none 0 0, .slice none 0 0] 30)).cell? ⟨w.heap.size + 1, 1, none⟩ = some (.slice none 0 0) := by simp [go_sem]
  have f0 : ((w.alloc (.cells #[.slice A n c, .slice B m d] 30)).alloc (.cells #[.slice none 0 0, .slice none 0 0] 30)).frozen? ⟨w.heap.size + 1, 0, none⟩ = false := by simp [go_sem]
  have f1 : ((w.alloc (.cells #[.slice A n c, .slice B m d] 30)).alloc (.cells #[.slice none 0 0, .slice none 0 0] 30)).frozen? ⟨w.heap.size + 1, 1, none⟩ = false := by simp [go_sem]
  have hB1 : w.heap.size + 1 ≤ ((w.alloc (.cells #[.slice A n c, .slice B m d] 30)).alloc (.cells #[.slice none 0 0, .slice none 0 0] 30)).heap.size := by simp
  go_enter Tryd.func25, Tryd.ntmps25
  go_wp2_with fail
  have hBX : BX ((w.alloc (.cells #[.slice A n c, .slice B m d] 30)).alloc (.cells #[.slice none 0 0, .slice none 0 0] 30)) (w.heap.size + 1) (w.heap.size + 1) [] [] := BX.mk0 (Nat.le_refl _) x0 x1 f0 f1 Own.none_ Own.none_ (by intro a ha; cases ha) (by intro a ha; cases ha) (by intro a b ha; cases ha)
  clear x0 x1 f0 f1
  generalize hsb : w.heap.size + 1 = sb at hBX hB0 hB1 ⊢
  generalize ((w.alloc (.cells #[.slice A n c, .slice B m d] 30)).alloc (.cells #[.slice none 0 0, .slice none 0 0] 30)) = W0 at hBX hW hB1 v0 v1 ⊢
  have hsb := Lib.hid hsb
  have hlt0 : w.heap.size < sb := by have := hsb.out; omega
  go_loopw [12] (fun i wr => ∃ k : Nat, k ≤ n ∧ i = .int .i64 k ∧ (ss.take k).length ≤ 60 ∧ BX wr sb sb (ss.take k) [] ∧ Below sb W0 wr ∧ Hid (∀ (i : Nat) s, i < k → ss[i]? = some s → slCode (ss.take i) s = 0)) (fun i _ => n - (intOf i).toNat)
  case atStart => exact ⟨0, by omega, rfl, by simp, hBX, Below.refl _ _, by intro i s hi; omega⟩
  case round =>
    obtain ⟨k, hk, rfl, hk60, hX, hb, hA⟩ := hrel
    have y0 := (hb.cell (show (⟨w.heap.size, 0, none⟩ : Addr).block < sb by omega)).trans v0
    have y1 := (hb.cell (show (⟨w.heap.size, 1, none⟩ : Addr).block < sb by omega)).trans v1
    have hwr := hW.trans (hb.mono hB0)
    by_cases hlt : k < n
    · obtain ⟨b, off, x, rfl, hx, hmm, d0⟩ := (h.below hwr).atS hlt
      have hxz := hz x hmm
      have HX := Lib.hid hx
      clear hx hmm
      by_cases q : slCode (ss.take k) x = 0
      · have HT : Hid (ss.take (k + 1) = ss.take k ++ [x]) := take_snoc HX.out
        have HQ := Lib.hid q
        have h60 := slNext_len (s := x) hk60
        go_wp2_with fail
        refine (addSlide_any _ sb (ss.take k) [] x _ hX hk60 hxz).mono ?_
        rintro e w5 ⟨rfl, hX5, hb5⟩
        rw [slNext_ok q, ← HT.out] at h60 hX5
        rw [q]
        clear q
        go_wp2_with fail
        go_roundw
        case rel =>
          refine ⟨k + 1, by omega, by go_num, h60, hX5, hb.trans hb5, ?_⟩
          intro i s hi hs
          rcases Nat.lt_succ_iff_lt_or_eq.1 hi with hi | rfl
          · exact hA i s hi hs
          · rw [HX.out] at hs; cases hs; exact HQ.out
        case measure => simp [intOf]; omega
      · have HV : Hid (vScr ss xs = false) := vScr_sl HX.out q
        have hne : (slCode (ss.take k) x != 0) = true := by rw [bne_iff_ne]; exact q
        clear q
        go_wp2_with fail
        refine (addSlide_any _ sb (ss.take k) [] x _ hX hk60 hxz).mono ?_
        rintro e w5 ⟨rfl, hX5, hb5⟩
        generalize slCode (ss.take k) x = code at hne ⊢
        go_wp2_with fail
        go_ret
        exact ⟨ret_bool HV.out.symm, hwr.trans (hb5.mono hB0)⟩
    · have : k = n := by omega
      subst this
      have HTK : ss.take k = ss := List.take_of_length_le (by rw [h.1]; exact Nat.le_refl _)
      have HA : Hid (okSl ss) := okSl_upto fun i s hi hs => hA i s (by rw [h.1] at hi; exact hi) hs
      rw [HTK] at hX hk60
      have HTK := Lib.hid HTK
      have hB1 := Nat.le_trans hB1 hb.size
      go_wp2_with fail
      generalize wr = W1 at hX hb hwr y0 y1 hB1 ⊢
      go_loopw [23] (fun i wr => ∃ z : Nat, z ≤ m ∧ i = .int .i64 z ∧ (xs.take z).length ≤ 60 ∧ BX wr sb sb ss (xs.take z) ∧ Below sb W1 wr ∧ Hid (∀ (i : Nat) s, i < z → xs[i]? = some s → acCode ss (xs.take i) s = 0)) (fun i _ => m - (intOf i).toNat)
      case atStart => exact ⟨0, by omega, rfl, by simp, hX, Below.refl _ _, by intro i s hi; omega⟩
      case round =>
        obtain ⟨z, hk, rfl, hz60, hX1, hb1, hA1⟩ := hrel
        have y0 := (hb1.cell (show (⟨w.heap.size, 0, none⟩ : Addr).block < sb by omega)).trans y0
        have y1 := (hb1.cell (show (⟨w.heap.size, 1, none⟩ : Addr).block < sb by omega)).trans y1
        have hwr2 := hwr.trans (hb1.mono hB0)
        by_cases hlt : z < m
        · obtain ⟨b, off, x, rfl, hx, hmm, d0, d1, d2, d3⟩ := (h2.below hwr2).atAct hlt
          have HX := Lib.hid hx
          clear hx hmm
          have hX2 := hX1.below (below_alloc wr (.cells #[.int .i64 x.1, .string x.2.1, .string x.2.2.1, .int .i64 x.2.2.2] 56))
          have hb2 := hb1.trans (below_al (Nat.le_trans hB1 hb1.size) (.cells #[.int .i64 x.1, .string x.2.1, .string x.2.2.1, .int .i64 x.2.2.2] 56))
          have hwr3 := hwr.trans (hb2.mono hB0)
          by_cases q : acCode ss (xs.take z) x = 0
          · have HT : Hid (xs.take (z + 1) = xs.take z ++ [x]) := take_snoc HX.out
            have HQ := Lib.hid q
            have h60 := acNext_len (ss := ss) (a := x) hz60
            go_wp2_with fail
            refine (addAct_any _ sb ss (xs.take z) x _ hX2 hk60 hz60).mono ?_
            rintro e w5 ⟨rfl, hX5, hb5⟩
            rw [acNext_ok q, ← HT.out] at h60 hX5
            rw [q]
            clear q
            go_wp2_with fail
            go_roundw
            case rel =>
              refine ⟨z + 1, by omega, by go_num, h60, hX5, hb2.trans hb5, ?_⟩
              intro i s hi hs
              rcases Nat.lt_succ_iff_lt_or_eq.1 hi with hi | rfl
              · exact hA1 i s hi hs
              · rw [HX.out] at hs; cases hs; exact HQ.out
            case measure => simp [intOf]; omega
          · have HV : Hid (vScr ss xs = false) := vScr_ac HX.out q
            have hne : (acCode ss (xs.take z) x != 0) = true := by rw [bne_iff_ne]; exact q
            clear q
            go_wp2_with fail
            refine (addAct_any _ sb ss (xs.take z) x _ hX2 hk60 hz60).mono ?_
            rintro e w5 ⟨rfl, hX5, hb5⟩
            generalize acCode ss (xs.take z) x = code at hne ⊢
            go_wp2_with fail
            go_ret
            exact ⟨ret_bool HV.out.symm, hwr3.trans (hb5.mono hB0)⟩
        · have : z = m := by omega
          subst this
          have HV : Hid (vScr ss xs = true) := vScr_all HA.out (okAc_upto fun i s hi hs => hA1 i s (by rw [h2.1] at hi; exact hi) hs)
          go_wp2_with fail
          go_ret
          exact ⟨ret_bool HV.out.symm, hwr2⟩

end Go.Proofs.YthplfodfilefjaaDoor
