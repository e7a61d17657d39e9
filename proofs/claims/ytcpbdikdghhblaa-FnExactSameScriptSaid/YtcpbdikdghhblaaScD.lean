/-
  Scripts: the reference's comparison.
-/
import Derived.Test.YtcpbdikdghhblaaScC
namespace Go.Proofs.Ytcpbdikdghhblaa
open Go.RowKit

set_option maxHeartbeats 800000 in
theorem specSameScript_any (A : Option Addr) (n c : Nat) (ss : List ByteArray) (B : Option Addr) (m d : Nat) (xs : List (Int × ByteArray × ByteArray × Int)) (A' : Option Addr) (n' c' : Nat) (ts : List ByteArray) (B' : Option Addr) (m' d' : Nat) (ys : List (Int × ByteArray × ByteArray × Int)) (w : World) (h : Sl w 1 eS A n ss) (h2 : Sl w 4 eAct B m xs) (k : Sl w 1 eS A' n' ts) (k2 : Sl w 4 eAct B' m' ys) (hn : n ≤ 1048577) (hm : m ≤ 1048577) (hn' : n' ≤ 1048577) (hm' : m' ≤ 1048577) :
    Calls Try.prog 16 #[.agg #[.slice A n c, .slice B m d], .agg #[.slice A' n' c', .slice B' m' d']] w fun e w' => e = .returned (.bool (decide (ss = ts ∧ xs = ys))) ∧ Below w.heap.size w w' := by
  by_cases hnm : n = n'
  · subst hnm
    by_cases hmm : m = m'
    · subst hmm
      go_enter Try.func16, Try.ntmps16
      go_wp2_with fail
      have hW : Below w.heap.size w ((w.alloc (.cells #[.slice A n c, .slice B m d] 29)).alloc (.cells #[.slice A' n c', .slice B' m d'] 29)) := (below_alloc w _).alloc (by simp) _
      have a0 : ((w.alloc (.cells #[.slice A n c, .slice B m d] 29)).alloc (.cells #[.slice A' n c', .slice B' m d'] 29)).cell? ⟨w.heap.size, 0, none⟩ = some (.slice A n c) := by simp [go_sem]
      have a1 : ((w.alloc (.cells #[.slice A n c, .slice B m d] 29)).alloc (.cells #[.slice A' n c', .slice B' m d'] 29)).cell? ⟨w.heap.size, 1, none⟩ = some (.slice B m d) := by simp [go_sem]
      have b0 : ((w.alloc (.cells #[.slice A n c, .slice B m d] 29)).alloc (.cells #[.slice A' n c', .slice B' m d'] 29)).cell? ⟨w.heap.size + 1, 0, none⟩ = some (.slice A' n c') := by simp [go_sem]
      have b1 : ((w.alloc (.cells #[.slice A n c, .slice B m d] 29)).alloc (.cells #[.slice A' n c', .slice B' m d'] 29)).cell? ⟨w.heap.size + 1, 1, none⟩ = some (.slice B' m d') := by simp [go_sem]
      generalize ((w.alloc (.cells #[.slice A n c, .slice B m d] 29)).alloc (.cells #[.slice A' n c', .slice B' m d'] 29)) = W2 at hW a0 a1 b0 b1 ⊢
      go_loopw [5] (fun i wr => ∃ k : Nat, k ≤ n ∧ i = .int .i64 k ∧ Hid (ss.take k = ts.take k) ∧ Below W2.heap.size W2 wr) (fun i _ => n - (intOf i).toNat)
      case atStart => exact ⟨0, by omega, rfl, by simp [Hid], Below.refl _ _⟩
      case round =>
        obtain ⟨q, hq, rfl, he, hb⟩ := hrel
        have v0 := (hb.cell (World.block_lt_of_cell? _ _ a0)).trans a0
        have v1 := (hb.cell (World.block_lt_of_cell? _ _ a1)).trans a1
        have u0' := (hb.cell (World.block_lt_of_cell? _ _ b0)).trans b0
        have u1' := (hb.cell (World.block_lt_of_cell? _ _ b1)).trans b1
        by_cases hlt : q < n
        · obtain ⟨b, off, x, rfl, hx, _, c0⟩ := ((h.below hW).below hb).atS hlt
          obtain ⟨b', off', y, rfl, hy, _, d0⟩ := ((k.below hW).below hb).atS hlt
          have g1 : (0 : Int) ≤ (q : Int) := by omega
          have g2 : (q : Int) < (n : Int) := by omega
          have HX := Lib.hid hx
          have HY := Lib.hid hy
          clear hx hy
          cases q1 : (x.toList == y.toList)
          · have HN : Hid (decide (ss = ts ∧ xs = ys) = false) := by have := ne_of_get HX.out HY.out (by rw [str_eq] at q1; simpa using q1); rw [Hid]; simp [this]
            go_wp2_with fail
            go_quiet (fail)
            go_wp2_with fail
            go_ret
            exact ⟨ret_bool HN.out.symm, below_drewN (below_step hW hb) _⟩
          · have HT := Lib.hid (take_eq_step he.out HX.out HY.out (by rw [str_eq] at q1; simpa using q1))
            go_wp2_with fail
            go_quiet (fail)
            go_wp2_with fail
            go_roundw
            case rel => exact ⟨q + 1, by omega, by go_num, HT.out, below_drewN hb _⟩
            case measure => simp [intOf]; omega
        · have : q = n := by omega
          subst this
          have HSS : Hid (ss = ts) := eq_of_take he.out h.1 k.1
          have HE : Hid (decide (ss = ts ∧ xs = ys) = decide (xs = ys)) := by rw [Hid]; simp [HSS.out]
          go_wp2_with fail
          go_loopw [6] (fun i wr => ∃ z : Nat, z ≤ m ∧ i = .int .i64 z ∧ Hid (xs.take z = ys.take z) ∧ Below W2.heap.size W2 wr) (fun i _ => m - (intOf i).toNat)
          case atStart => exact ⟨0, by omega, rfl, by simp [Hid], hb⟩
          case round =>
            obtain ⟨z, hz, rfl, he, hb⟩ := hrel
            have v0 := (hb.cell (World.block_lt_of_cell? _ _ a0)).trans a0
            have v1 := (hb.cell (World.block_lt_of_cell? _ _ a1)).trans a1
            have u0' := (hb.cell (World.block_lt_of_cell? _ _ b0)).trans b0
            have u1' := (hb.cell (World.block_lt_of_cell? _ _ b1)).trans b1
            by_cases hlt : z < m
            · obtain ⟨b, off, x, rfl, hx, _, c0, c1, c2, c3⟩ := ((h2.below hW).below hb).atAct hlt
              obtain ⟨b', off', y, rfl, hy, _, d0, d1, d2, d3⟩ := ((k2.below hW).below hb).atAct hlt
              have g1 : (0 : Int) ≤ (z : Int) := by omega
              have g2 : (z : Int) < (m : Int) := by omega
              have HX := Lib.hid hx
              have HY := Lib.hid hy
              clear hx hy
              have hqq := fun w => neqAct x y w
              go_wp2_with fail
              go_quiet (fail)
              go_wp2_with fail
              · have q1 : (!decide (x = y)) = true := by assumption
                have HN : Hid (decide (xs = ys) = false) := by have := ne_of_get HX.out HY.out (by simpa using q1); rw [Hid]; simp [this]
                go_ret
                exact ⟨ret_bool (by rw [HE.out, HN.out]), below_drewN (below_step hW hb) _⟩
              · have q1 : (!decide (x = y)) = false := by assumption
                have HT := Lib.hid (take_eq_step he.out HX.out HY.out (by simpa using q1))
                go_roundw
                case rel => exact ⟨z + 1, by omega, by go_num, HT.out, below_drewN hb _⟩
                case measure => simp [intOf]; omega
            · have : z = m := by omega
              subst this
              have HXX : Hid (decide (xs = ys) = true) := by have := eq_of_take he.out h2.1 k2.1; rw [Hid]; simp [this]
              go_wp2_with fail
              go_ret
              exact ⟨ret_bool (by rw [HE.out, HXX.out]), below_step hW hb⟩
    · have hne : xs ≠ ys := fun e => hmm (by rw [← h2.1, ← k2.1, e])
      have HN : Hid (decide (ss = ts ∧ xs = ys) = false) := by rw [Hid]; simp [hne]
      have hf : ((m : Int) != (m' : Int)) = true := by rw [bne_iff_ne]; omega
      clear hne
      go_enter Try.func16, Try.ntmps16
      go_wp2
      go_ret
      exact ⟨ret_bool HN.out.symm, (below_alloc _ _).alloc (by simp) _⟩
  · have hne : ss ≠ ts := fun e => hnm (by rw [← h.1, ← k.1, e])
    have HN : Hid (decide (ss = ts ∧ xs = ys) = false) := by rw [Hid]; simp [hne]
    have hf : ((n : Int) != (n' : Int)) = true := by rw [bne_iff_ne]; omega
    clear hne
    go_enter Try.func16, Try.ntmps16
    go_wp2
    go_ret
    exact ⟨ret_bool HN.out.symm, (below_alloc _ _).alloc (by simp) _⟩

end Go.Proofs.Ytcpbdikdghhblaa
