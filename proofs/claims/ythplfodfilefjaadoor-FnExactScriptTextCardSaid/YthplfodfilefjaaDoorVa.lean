/-
  Scripts: which are valid, both sides.
-/
import Derived.Test.YthplfodfilefjaaDoorAdH
namespace Go.Proofs.YthplfodfilefjaaDoor
set_option maxRecDepth 100000
open Go.RowKit Go.Deep Go.Joins

theorem l18Empty_any (w : World) :
    Calls Tryd.prog 38 #[] w fun e w' => (∃ A c B d, e = .returned (.agg #[.slice A 0 c, .slice B 0 d]) ∧ Own w' w.heap.size 9 1 eS (.slice A 0 c) [] ∧ Own w' w.heap.size 56 4 eAct (.slice B 0 d) [] ∧ ∀ a b, A = some a → B = some b → a.block ≠ b.block) ∧ Below w.heap.size w w' := by
  go_enter Tryd.func38, Tryd.ntmps38
  go_wp2_with fail
  have hW1 : Below w.heap.size w (w.alloc (.cells #[.slice (some ⟨w.heap.size + 1, 0, none⟩) 0 0, .slice (some ⟨w.heap.size + 1 + 1, 0, none⟩) 0 0] 30)) := below_alloc _ _
  have o1 := Own.lit (enc := eS) (k := 1) (w.alloc (.cells #[.slice (some ⟨w.heap.size + 1, 0, none⟩) 0 0, .slice (some ⟨w.heap.size + 1 + 1, 0, none⟩) 0 0] 30)) #[] 9 [] 0 (base := w.heap.size) (by simp) rfl (by unfold maxLen; omega) eS_len rfl
  have o2 := Own.lit (enc := eAct) (k := 4) ((w.alloc (.cells #[.slice (some ⟨w.heap.size + 1, 0, none⟩) 0 0, .slice (some ⟨w.heap.size + 1 + 1, 0, none⟩) 0 0] 30)).alloc (.cells #[] 9)) #[] 56 [] 0 (base := w.heap.size) (by simp; omega) rfl (by unfold maxLen; omega) eAct_len rfl
  have hs1 : (w.alloc (.cells #[.slice (some ⟨w.heap.size + 1, 0, none⟩) 0 0, .slice (some ⟨w.heap.size + 1 + 1, 0, none⟩) 0 0] 30)).heap.size = w.heap.size + 1 := by simp
  have hs2 : ((w.alloc (.cells #[.slice (some ⟨w.heap.size + 1, 0, none⟩) 0 0, .slice (some ⟨w.heap.size + 1 + 1, 0, none⟩) 0 0] 30)).alloc (.cells #[] 9)).heap.size = w.heap.size + 1 + 1 := by simp
  rw [hs1] at o1
  rw [hs2] at o2
  exact bodyPost_ret (v := .agg #[.slice (some ⟨w.heap.size + 1, 0, none⟩) 0 0, .slice (some ⟨w.heap.size + 1 + 1, 0, none⟩) 0 0]) (by simp [results, Tryd.results38, go_sem]) rfl ⟨⟨_, _, _, _, rfl, o1.alloc _, o2, by intro a b ha hb; cases ha; cases hb; simp⟩, (hW1.alloc hW1.size _).alloc (by simp; omega) _⟩

theorem okSl_upto {ss : List ByteArray} (h : ∀ (i : Nat) s, i < ss.length → ss[i]? = some s → slCode (ss.take i) s = 0) : okSl ss := fun k s hs => h k s (List.getElem?_eq_some_iff.1 hs).1 hs
theorem okAc_upto {ss : List ByteArray} {xs : List AX} (h : ∀ (i : Nat) a, i < xs.length → xs[i]? = some a → acCode ss (xs.take i) a = 0) : okAc ss xs := fun k s hs => h k s (List.getElem?_eq_some_iff.1 hs).1 hs

theorem BX.mk0 {w : World} {base sb : Nat} {A B : Option Addr} {c d : Nat} (hb : base ≤ sb) (c0 : w.cell? ⟨sb, 0, none⟩ = some (.slice A 0 c)) (c1 : w.cell? ⟨sb, 1, none⟩ = some (.slice B 0 d)) (f0 : w.frozen? ⟨sb, 0, none⟩ = false) (f1 : w.frozen? ⟨sb, 1, none⟩ = false)
    (o1 : Own w base 9 1 eS (.slice A 0 c) []) (o2 : Own w base 56 4 eAct (.slice B 0 d) []) (n1 : ∀ a, A = some a → a.block ≠ sb) (n2 : ∀ a, B = some a → a.block ≠ sb) (n3 : ∀ a b, A = some a → B = some b → a.block ≠ b.block) : BX w base sb [] [] :=
  ⟨A, c, B, d, hb, c0, c1, f0, f1, o1, o2, n1, n2, n3⟩

set_option maxHeartbeats 1000000 in
theorem l18Ok_any (g : Nat) (A : Option Addr) (n c : Nat) (ss : List ByteArray) (B : Option Addr) (m d : Nat) (xs : List AX) (w : World) (c0 : w.cell? ⟨g, 0, none⟩ = some (.slice A n c)) (c1 : w.cell? ⟨g, 1, none⟩ = some (.slice B m d)) (h : Sl w 1 eS A n ss) (h2 : Sl w 4 eAct B m xs) (hn : n ≤ 1048577) (hm : m ≤ 1048577) (hz : ∀ s ∈ ss, s.size ≤ maxLen) :
    Calls Tryd.prog 21 #[.pointer (some ⟨g, 0, none⟩)] w fun e w' => e = .returned (.bool (vScr ss xs)) ∧ Below w.heap.size w w' := by
  have hg : g < w.heap.size := World.block_lt_of_cell? _ _ c0
  have hB0 : w.heap.size ≤ w.heap.size := Nat.le_refl _
  go_enter Tryd.func21, Tryd.ntmps21
  go_wp2_with fail
  refine (l18Empty_any _).mono ?_
  rintro e w2 ⟨⟨E1, ec, E2, ed, rfl, o1, o2, n3⟩, hb2⟩
  have v0 := (hb2.cell hg).trans c0
  have v1 := (hb2.cell hg).trans c1
  go_wp2_with fail
  replace v0 := (World.cell?_alloc_lt w2 (.cells #[.slice E1 0 ec, .slice E2 0 ed] 30) _ (World.block_lt_of_cell? _ _ v0)).trans v0
  replace v1 := (World.cell?_alloc_lt w2 (.cells #[.slice E1 0 ec, .slice E2 0 ed] 30) _ (World.block_lt_of_cell? _ _ v1)).trans v1
  have x0 : (w2.alloc (.cells #[.slice E1 0 ec, .slice E2 0 ed] 30)).cell? ⟨w2.heap.size, 0, none⟩ = some (.slice E1 0 ec) := by simp [go_sem]
  have x1 : (w2.alloc (.cells #[.slice E1 0 ec, .slice E2 0 ed] 30)).cell? ⟨w2.heap.size, 1, none⟩ = some (.slice E2 0 ed) := by simp [go_sem]
  have f0 : (w2.alloc (.cells #[.slice E1 0 ec, .slice E2 0 ed] 30)).frozen? ⟨w2.heap.size, 0, none⟩ = false := by simp [go_sem]
  have f1 : (w2.alloc (.cells #[.slice E1 0 ec, .slice E2 0 ed] 30)).frozen? ⟨w2.heap.size, 1, none⟩ = false := by simp [go_sem]
  have hW : Below w.heap.size w (w2.alloc (.cells #[.slice E1 0 ec, .slice E2 0 ed] 30)) := hb2.alloc hb2.size _
  have hBX : BX (w2.alloc (.cells #[.slice E1 0 ec, .slice E2 0 ed] 30)) w.heap.size w2.heap.size [] [] := BX.mk0 hb2.size x0 x1 f0 f1 (o1.alloc _) (o2.alloc _) (fun a ha => by have := (o1.lt a.block (by rw [ha]; rfl)).2; omega) (fun a ha => by have := (o2.lt a.block (by rw [ha]; rfl)).2; omega) n3
  clear x0 x1 f0 f1 o1 o2 n3 c0 c1
  generalize hsb : w2.heap.size = sb at hBX ⊢
  have hsb := Lib.hid hsb
  generalize w2.alloc (.cells #[.slice E1 0 ec, .slice E2 0 ed] 30) = W0 at hBX hW v0 v1 ⊢
  go_loopw [4] (fun i wr => ∃ k : Nat, k ≤ n ∧ i = .int .i64 k ∧ (ss.take k).length ≤ 60 ∧ BX wr w.heap.size sb (ss.take k) [] ∧ Below w.heap.size W0 wr ∧ Hid (∀ (i : Nat) s, i < k → ss[i]? = some s → slCode (ss.take i) s = 0)) (fun i _ => n - (intOf i).toNat)
  case atStart => exact ⟨0, by omega, rfl, by simp, hBX, Below.refl _ _, by intro i s hi; omega⟩
  case round =>
    obtain ⟨k, hk, rfl, hk60, hX, hb, hA⟩ := hrel
    have y0 := (hb.cell (show (⟨g, 0, none⟩ : Addr).block < w.heap.size by exact hg)).trans v0
    have y1 := (hb.cell (show (⟨g, 1, none⟩ : Addr).block < w.heap.size by exact hg)).trans v1
    have hwr := hW.trans (hb.mono hB0)
    by_cases hlt : k < n
    · obtain ⟨b, off, x, rfl, hx, hmm, d0⟩ := (h.below hwr).atS hlt
      have hxz := hz x hmm
      have HX := Lib.hid hx
      clear hx hmm
      by_cases q : slCode (ss.take k) x = 0
      · have HT : Hid (ss.take (k + 1) = ss.take k ++ [x]) := take_snoc HX.out
        have HQ := Lib.hid q
        have h60 := slNext_len (s := x) hk60
        go_wp2_with fail
        refine (l18Slide_any _ sb (ss.take k) [] x _ hX hk60 hxz).mono ?_
        rintro e w5 ⟨rfl, hX5, hb5⟩
        rw [slNext_ok q, ← HT.out] at h60 hX5
        rw [q]
        clear q
        go_wp2_with fail
        go_roundw
        case rel =>
          refine ⟨k + 1, by omega, by go_num, h60, hX5, hb.trans hb5, ?_⟩
          intro i s hi hs
          rcases Nat.lt_succ_iff_lt_or_eq.1 hi with hi | rfl
          · exact hA i s hi hs
          · rw [HX.out] at hs; cases hs; exact HQ.out
        case measure => simp [intOf]; omega
      · have HV : Hid (vScr ss xs = false) := vScr_sl HX.out q
        have hne : (slCode (ss.take k) x != 0) = true := by rw [bne_iff_ne]; exact q
        clear q
        go_wp2_with fail
        refine (l18Slide_any _ sb (ss.take k) [] x _ hX hk60 hxz).mono ?_
        rintro e w5 ⟨rfl, hX5, hb5⟩
        generalize slCode (ss.take k) x = code at hne ⊢
        go_wp2_with fail
        go_ret
        exact ⟨ret_bool HV.out.symm, hwr.trans (hb5.mono hB0)⟩
    · have : k = n := by omega
      subst this
      have HTK : ss.take k = ss := List.take_of_length_le (by rw [h.1]; exact Nat.le_refl _)
      have HA : Hid (okSl ss) := okSl_upto fun i s hi hs => hA i s (by rw [h.1] at hi; exact hi) hs
      rw [HTK] at hX hk60
      have HTK := Lib.hid HTK
      go_wp2_with fail
      generalize wr = W1 at hX hb hwr y0 y1 ⊢
      go_loopw [5] (fun i wr => ∃ z : Nat, z ≤ m ∧ i = .int .i64 z ∧ (xs.take z).length ≤ 60 ∧ BX wr w.heap.size sb ss (xs.take z) ∧ Below w.heap.size W1 wr ∧ Hid (∀ (i : Nat) s, i < z → xs[i]? = some s → acCode ss (xs.take i) s = 0)) (fun i _ => m - (intOf i).toNat)
      case atStart => exact ⟨0, by omega, rfl, by simp, hX, Below.refl _ _, by intro i s hi; omega⟩
      case round =>
        obtain ⟨z, hk, rfl, hz60, hX1, hb1, hA1⟩ := hrel
        have y0 := (hb1.cell (show (⟨g, 0, none⟩ : Addr).block < w.heap.size by exact hg)).trans y0
        have y1 := (hb1.cell (show (⟨g, 1, none⟩ : Addr).block < w.heap.size by exact hg)).trans y1
        have hwr2 := hwr.trans (hb1.mono hB0)
        by_cases hlt : z < m
        · obtain ⟨b, off, x, rfl, hx, hmm, d0, d1, d2, d3⟩ := (h2.below hwr2).atAct hlt
          have HX := Lib.hid hx
          clear hx hmm
          by_cases q : acCode ss (xs.take z) x = 0
          · have HT : Hid (xs.take (z + 1) = xs.take z ++ [x]) := take_snoc HX.out
            have HQ := Lib.hid q
            have h60 := acNext_len (ss := ss) (a := x) hz60
            go_wp2_with fail
            refine (l18Act_any _ sb ss (xs.take z) x _ hX1 hk60 hz60).mono ?_
            rintro e w5 ⟨rfl, hX5, hb5⟩
            rw [acNext_ok q, ← HT.out] at h60 hX5
            rw [q]
            clear q
            go_wp2_with fail
            go_roundw
            case rel =>
              refine ⟨z + 1, by omega, by go_num, h60, hX5, hb1.trans hb5, ?_⟩
              intro i s hi hs
              rcases Nat.lt_succ_iff_lt_or_eq.1 hi with hi | rfl
              · exact hA1 i s hi hs
              · rw [HX.out] at hs; cases hs; exact HQ.out
            case measure => simp [intOf]; omega
          · have HV : Hid (vScr ss xs = false) := vScr_ac HX.out q
            have hne : (acCode ss (xs.take z) x != 0) = true := by rw [bne_iff_ne]; exact q
            clear q
            go_wp2_with fail
            refine (l18Act_any _ sb ss (xs.take z) x _ hX1 hk60 hz60).mono ?_
            rintro e w5 ⟨rfl, hX5, hb5⟩
            generalize acCode ss (xs.take z) x = code at hne ⊢
            go_wp2_with fail
            go_ret
            exact ⟨ret_bool HV.out.symm, hwr2.trans (hb5.mono hB0)⟩
        · have : z = m := by omega
          subst this
          have HV : Hid (vScr ss xs = true) := vScr_all HA.out (okAc_upto fun i s hi hs => hA1 i s (by rw [h2.1] at hi; exact hi) hs)
          go_wp2_with fail
          go_ret
          exact ⟨ret_bool HV.out.symm, hwr2⟩

end Go.Proofs.YthplfodfilefjaaDoor
