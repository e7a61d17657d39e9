/-
  The heap sort on bytes; rows turned round; the part that is sorted already.
-/
import Derived.Test.YtcfbnlkkoifiiaaQsC
namespace Go.Proofs.Ytcfbnlkkoifiiaa
open Go.RowKit Go.Sort

set_option maxHeartbeats 3200000 in
theorem heapB_any (g off cap a b n : Nat) (d : Array Int) (w : World) (h : Hb g off d w) (hn : d.size = n) (hab : a < b) (hb : b ≤ n) (hs : n ≤ 40) :
    Calls Try.prog 44 #[.slice (some ⟨g, off, none⟩) n cap, .int .i64 a, .int .i64 b] w fun e w' => e = .returned (.tuple #[]) ∧ Hb g off (Sort.heapSort ltInt d a b) w' ∧ Kg g w w' := by
  have r1 : IntKind.i64.wrap ((b : Int) - (a : Int)) = ((b - a : Nat) : Int) := by rw [show (b : Int) - (a : Int) = ((b - a : Nat) : Int) from by omega]; exact IntWalk.i64_in _ (by omega)
  have r2 : IntKind.i64.wrap (((b - a : Nat) : Int) - 1) = ((b - a : Nat) : Int) - 1 := IntWalk.i64_in _ (by omega)
  have hq : (((b - a : Nat) : Int) - 1).tdiv 2 = (((b - a - 1) / 2 + 1 : Nat) : Int) - 1 := by
    have := half_start (a := a) (b := b) (by omega)
    rwa [show (b : Int) - (a : Int) = ((b - a : Nat) : Int) from by omega] at this
  have r3 : IntKind.i64.wrap ((((b - a - 1) / 2 + 1 : Nat) : Int) - 1) = (((b - a - 1) / 2 + 1 : Nat) : Int) - 1 := IntWalk.i64_in _ (by omega)
  go_enter Try.func44, Try.ntmps44
  go_wp2
  go_loopw [9] (fun v wr => ∃ (k : Nat) (dk : Array Int), k ≤ (b - a - 1) / 2 + 1 ∧ v = .int .i64 ((k : Int) - 1) ∧ dk.size = n ∧ Hid (heapBuild ltInt (b - a) a k dk = heapBuild ltInt (b - a) a ((b - a - 1) / 2 + 1) d) ∧ Hb g off dk wr ∧ Kg g w wr) (fun v _ => (intOf v + 1).toNat)
  case atStart => exact ⟨(b - a - 1) / 2 + 1, d, Nat.le_refl _, by congr 1; omega, hn, rfl, h, Kp.refl _ _⟩
  case round =>
    obtain ⟨k, dk, hkb, rfl, hdk, hS, hh, hk⟩ := hrel
    clear h
    cases k with
    | succ k =>
      rw [show ((k + 1 : Nat) : Int) - 1 = (k : Int) from by omega]
      have HS : Hid (heapBuild ltInt (b - a) a k (siftDown ltInt (b - a) a k dk) = heapBuild ltInt (b - a) a ((b - a - 1) / 2 + 1) d) := by rw [Hid, ← hS.out]; rfl
      go_wp2_with fail
      refine (siftB_any g off cap k (b - a) a n dk _ hh hdk (by omega) (by omega) hs).mono ?_
      rintro e w2 ⟨rfl, h2, k2⟩
      go_wp2
      go_roundw
      case rel => exact ⟨k, _, by omega, rfl, by rw [size_siftDown _ _ _ (b - a) _ _ (by omega)]; exact hdk, HS, h2, hk.trans k2⟩
      case measure => simp [intOf] <;> omega
    | zero =>
      have HD : Hid (dk = heapBuild ltInt (b - a) a ((b - a - 1) / 2 + 1) d) := hS
      clear hS
      rw [show ((0 : Nat) : Int) - 1 = -1 from rfl]
      go_wp2
      go_loopw [10] (fun v wr => ∃ (k : Nat) (dk : Array Int), k ≤ b - a ∧ v = .int .i64 ((k : Int) - 1) ∧ dk.size = n ∧ Hid (heapPop ltInt a k dk = Sort.heapSort ltInt d a b) ∧ Hb g off dk wr ∧ Kg g w wr) (fun v _ => (intOf v + 1).toNat)
      case atStart => exact ⟨b - a, dk, Nat.le_refl _, by congr 1, hdk, by rw [Hid, HD.out]; rfl, hh, hk⟩
      case round =>
        clear hh hk hdk HD
        obtain ⟨k, dk, hkb, rfl, hdk, hS, hh, hk⟩ := hrel
        cases k with
        | succ k =>
          rw [show ((k + 1 : Nat) : Int) - 1 = (k : Int) from by omega]
          have HS : Hid (heapPop ltInt a k (siftDown ltInt k a 0 (swp dk a (a + k))) = Sort.heapSort ltInt d a b) := by rw [Hid, ← hS.out]; rfl
          clear hS
          obtain ⟨G, HG, hc, hf⟩ := hh.fam hdk
          have b4 : a < dk.size := by omega
          have b5 : a + k < dk.size := by omega
          have s1 : IntKind.i64.wrap ((a : Int) + (k : Int)) = ((a + k : Nat) : Int) := by rw [show (a : Int) + (k : Int) = ((a + k : Nat) : Int) from by omega]; exact IntWalk.i64_in _ (by omega)
          have s2 : a < n := by omega
          have s3 : a + k < n := by omega
          rcases Nat.eq_zero_or_pos k with hk0 | hk0
          · subst hk0
            go_wp2
            go_region
            all_goals go_wp2_with fail
            refine (siftB_any g off cap 0 0 a n (swp dk a (a + 0)) _ ?_ (by rw [size_swp]; exact hdk) (by omega) (by omega) hs).mono ?_
            · simp only [HG.out]
              first | exact hh.swp b4 b5 | exact (hh.swp b4 b5).drew
            rintro e w2 ⟨rfl, h2, k2⟩
            have hk2 : Kg g w w2 := by
              refine Kp.trans ?_ k2
              first | exact hk.swp | exact hk.swp.drew
            go_wp2
            go_roundw
            case rel => exact ⟨0, _, by omega, rfl, by rw [size_siftDown _ _ _ 0 _ _ (by omega), size_swp]; exact hdk, HS, h2, hk2⟩
            case measure => simp [intOf] <;> omega
          · have hne : a ≠ a + k := by omega
            go_wp2
            go_region
            all_goals go_wp2_with fail
            refine (siftB_any g off cap 0 k a n (swp dk a (a + k)) _ ?_ (by rw [size_swp]; exact hdk) (by omega) (by omega) hs).mono ?_
            · simp only [HG.out]
              first | exact hh.swp b4 b5 | exact (hh.swp b4 b5).drew
            rintro e w2 ⟨rfl, h2, k2⟩
            have hk2 : Kg g w w2 := by
              refine Kp.trans ?_ k2
              first | exact hk.swp | exact hk.swp.drew
            go_wp2
            go_roundw
            case rel => exact ⟨k, _, by omega, rfl, by rw [size_siftDown _ _ _ k _ _ (by omega), size_swp]; exact hdk, HS, h2, hk2⟩
            case measure => simp [intOf] <;> omega
        | zero =>
          go_wp2
          go_end0
          exact ⟨rfl, by rw [← hS.out]; exact hh, hk⟩

end Go.Proofs.Ytcfbnlkkoifiiaa
