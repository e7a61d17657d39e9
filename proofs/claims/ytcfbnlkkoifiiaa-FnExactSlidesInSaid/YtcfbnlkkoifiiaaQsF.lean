/-
  The pivot of a row of bytes.
-/
import Derived.Test.YtcfbnlkkoifiiaaQs
namespace Go.Proofs.Ytcfbnlkkoifiiaa
open Go.RowKit Go.Sort

theorem Hb.kp {g gs off : Nat} {d : Array Int} {w w' : World} (h : Hb g off d w) (hk : Kg gs w w') (hne : g ≠ gs) : Hb g off d w' :=
  fun t ht => ⟨hk.cell (h t ht).1 hne, hk.frz (h t ht).1 (h t ht).2 hne⟩
theorem order2B_any (g off cap a b n gs : Nat) (s : Int) (d : Array Int) (w : World) (h : Hb g off d w) (hn : d.size = n) (ha : a < n) (hb : b < n) (_hs : n ≤ 40) (_hne : g ≠ gs) (cs : w.cell? ⟨gs, 0, none⟩ = some (.int .i64 s)) (fs : w.frozen? ⟨gs, 0, none⟩ = false) :
    Calls Try.prog 62 #[.slice (some ⟨g, off, none⟩) n cap, .int .i64 a, .int .i64 b, .pointer (some ⟨gs, 0, none⟩)] w fun e w' => ∃ (x y : Nat) (s' : Int), e = .returned (.tuple #[.int .i64 x, .int .i64 y]) ∧ (x = a ∧ y = b ∨ x = b ∧ y = a) ∧ w'.cell? ⟨gs, 0, none⟩ = some (.int .i64 s') ∧ w'.frozen? ⟨gs, 0, none⟩ = false ∧ Kg gs w w' := by
  obtain ⟨G, HG, hc, hf⟩ := h.fam hn
  go_enter Try.func62, Try.ntmps62
  go_wp2
  go_quiet (first | (go_at_call 49; refine Calls.quiet_of_same (lessB_any _ _ _)))
  generalize hW : w.drewN nq = wt
  have ct : wt.cell? ⟨gs, 0, none⟩ = some (.int .i64 s) := by rw [← hW]; exact cs
  have ft : wt.frozen? ⟨gs, 0, none⟩ = false := by rw [← hW]; exact fs
  have kt : Kg gs w wt := by rw [← hW]; exact (show Kg gs w w from Kp.refl _ _).drewN _
  clear hW
  go_wp2
  · go_ret2
    exact ⟨b, a, _, rfl, .inr ⟨rfl, rfl⟩, World.cell?_setCell_same _ _ _ ct, by rw [World.frozen?_setCell]; exact ft, kt.setCell rfl _⟩
  · go_ret2
    exact ⟨a, b, s, rfl, .inl ⟨rfl, rfl⟩, ct, ft, kt⟩
theorem medianB_any (g off cap a b c n gs : Nat) (s : Int) (d : Array Int) (w : World) (h : Hb g off d w) (hn : d.size = n) (ha : a < n) (hb : b < n) (hc : c < n) (hs : n ≤ 40) (hne : g ≠ gs) (cs : w.cell? ⟨gs, 0, none⟩ = some (.int .i64 s)) (fs : w.frozen? ⟨gs, 0, none⟩ = false) :
    Calls Try.prog 59 #[.slice (some ⟨g, off, none⟩) n cap, .int .i64 a, .int .i64 b, .int .i64 c, .pointer (some ⟨gs, 0, none⟩)] w fun e w' => ∃ (x : Nat) (s' : Int), e = .returned (.int .i64 x) ∧ (x = a ∨ x = b ∨ x = c) ∧ w'.cell? ⟨gs, 0, none⟩ = some (.int .i64 s') ∧ Kg gs w w' := by
  go_enter Try.func59, Try.ntmps59
  go_wp2_with fail
  refine (order2B_any g off cap a b n gs s d _ h hn ha hb hs hne cs fs).mono ?_
  rintro e w1 ⟨x1, y1, s1, rfl, h1, c1, f1, k1⟩
  go_wp2_with fail
  refine (order2B_any g off cap y1 c n gs s1 d _ (h.kp k1 hne) hn (by omega) hc hs hne c1 f1).mono ?_
  rintro e w2 ⟨x2, y2, s2, rfl, h2, c2, f2, k2⟩
  go_wp2_with fail
  refine (order2B_any g off cap x1 x2 n gs s2 d _ ((h.kp k1 hne).kp k2 hne) hn (by omega) (by omega) hs hne c2 f2).mono ?_
  rintro e w3 ⟨x3, y3, s3, rfl, h3, c3, f3, k3⟩
  go_wp2_with fail
  go_ret
  exact ⟨y3, s3, rfl, by omega, c3, (k1.trans k2).trans k3⟩

theorem pivotB_any (g off cap a b n : Nat) (d : Array Int) (w : World) (h : Hb g off d w) (hg : g < w.heap.size) (hn : d.size = n) (hab : a < b) (hb : b ≤ n) (hs : n ≤ 40) :
    Calls Try.prog 46 #[.slice (some ⟨g, off, none⟩) n cap, .int .i64 a, .int .i64 b] w fun e w' => ∃ (p : Nat) (hint : Int), e = .returned (.tuple #[.int .i64 p, .int .i64 hint]) ∧ a ≤ p ∧ p < b ∧ Below w.heap.size w w' := by
  have r1 : IntKind.i64.wrap ((b : Int) - (a : Int)) = ((b - a : Nat) : Int) := by rw [show (b : Int) - (a : Int) = ((b - a : Nat) : Int) from by omega]; exact IntWalk.i64_in _ (by omega)
  go_enter Try.func46, Try.ntmps46
  have hA : Hb g off d (w.alloc (.cells #[.int .i64 0] 3)) := h.kp (gs := w.heap.size) (Kp.of_below (below_alloc _ _)) (by omega)
  have cA : (w.alloc (.cells #[.int .i64 0] 3)).cell? ⟨w.heap.size, 0, none⟩ = some (.int .i64 0) := newcell w #[.int .i64 0] _ _ rfl 0
  have fA : (w.alloc (.cells #[.int .i64 0] 3)).frozen? ⟨w.heap.size, 0, none⟩ = false := by simp
  have e1 : (a : Int) + ((b - a : Nat) : Int) / 4 = ((a + (b - a) / 4 : Nat) : Int) := by omega
  have e2 : (a : Int) + ((b - a : Nat) : Int) / 4 * 2 = ((a + (b - a) / 4 * 2 : Nat) : Int) := by omega
  have e3 : (a : Int) + ((b - a : Nat) : Int) / 4 * 3 = ((a + (b - a) / 4 * 3 : Nat) : Int) := by omega
  have E1 := Lib.hid e1
  have E2 := Lib.hid e2
  have E3 := Lib.hid e3
  have HA := Lib.hid hA
  have CA := Lib.hid cA
  have FA := Lib.hid fA
  clear e1 e2 e3 hA cA fA
  by_cases h8 : 8 ≤ b - a
  · go_wp2_with fail
    rw [E2.out, E3.out, E1.out]
    refine (medianB_any g off cap (a + (b - a) / 4) (a + (b - a) / 4 * 2) (a + (b - a) / 4 * 3) n w.heap.size 0 d _ HA.out hn (by omega) (by omega) (by omega) hs (by omega) CA.out FA.out).mono ?_
    rintro e w2 ⟨x, s', rfl, hx, c2, k2⟩
    have hb2 : Below w.heap.size w w2 := (below_alloc w _).trans (k2.below (fun k hk => by rw [hk]; exact Nat.le_refl _) (by simp))
    have X1 : a ≤ x := by omega
    have X2 : x < b := by omega
    clear k2
    by_cases h0 : s' = 0
    · go_wp2_with fail
      go_ret2
      exact ⟨x, _, rfl, X1, X2, hb2⟩
    · by_cases h12 : s' = 12
      · go_wp2_with fail
        go_ret2
        exact ⟨x, _, rfl, X1, X2, hb2⟩
      · go_wp2_with fail
        go_ret2
        exact ⟨x, _, rfl, X1, X2, hb2⟩
  · go_wp2_with fail
    rw [E2.out]
    go_ret2
    exact ⟨_, _, rfl, by omega, by omega, below_alloc _ _⟩

end Go.Proofs.Ytcfbnlkkoifiiaa
