/-
  Rows of bytes: turned round, sorted already, the pivot.
-/
import Derived.Test.YtcfbnlkkoifiiaaQs
import Derived.Test.YtcfbnlkkoifiiaaQp
namespace Go.Proofs.Ytcfbnlkkoifiiaa
open Go.RowKit Go.Sort

theorem revB_any (g off cap a b n : Nat) (d : Array Int) (w : World) (h : Hb g off d w) (hn : d.size = n) (hab : a < b) (hb : b ≤ n) (hs : n ≤ 40) :
    Calls Try.prog 47 #[.slice (some ⟨g, off, none⟩) n cap, .int .i64 a, .int .i64 b] w fun e w' => e = .returned (.tuple #[]) ∧ ∃ d' : Array Int, PermIn a b d d' ∧ d'.size = n ∧ Hb g off d' w' ∧ Kg g w w' := by
  go_enter Try.func47, Try.ntmps47
  go_wp2
  go_loopw [6, 7] (fun vi vj wr => ∃ (i j : Nat) (dk : Array Int), vi = .int .i64 i ∧ vj = .int .i64 j ∧ a ≤ i ∧ j < b ∧ dk.size = n ∧ PermIn a b d dk ∧ Hb g off dk wr ∧ Kg g w wr) (fun vi vj _ => (intOf vj).toNat - (intOf vi).toNat)
  case atStart => exact ⟨a, b - 1, d, rfl, by congr 1; omega, Nat.le_refl _, by omega, hn, permIn_refl _ _ _, h, Kp.refl _ _⟩
  case round =>
    obtain ⟨i, j, dk, rfl, rfl, hai, hjb, hdk, hp, hh, hk⟩ := hrel
    by_cases hij : i < j
    · obtain ⟨G, HG, hc, hf⟩ := hh.fam hdk
      have hne : i ≠ j := by omega
      have s1 : i < n := by omega
      have s2 : j < n := by omega
      have b4 : i < dk.size := by omega
      have b5 : j < dk.size := by omega
      have hp2 : PermIn a b d (swp dk i j) := permIn_trans _ _ _ _ _ hp (swp_permIn _ _ _ _ _ (by omega) (by omega) (by omega) (by omega) (by omega))
      go_wp2
      go_region
      all_goals go_wp2
      go_roundw
      case rel =>
        refine ⟨i + 1, j - 1, swp dk i j, by go_num, by congr 1; omega, by omega, by omega, by rw [size_swp]; exact hdk, hp2, ?_, ?_⟩
        · simp only [HG.out]
          first | exact hh.swp b4 b5 | exact (hh.swp b4 b5).drew
        · first | exact hk.swp | exact hk.swp.drew
      case measure => simp [intOf]; omega
    · go_wp2
      go_end0
      exact ⟨rfl, dk, hp, hdk, hh, hk⟩

theorem sorted_of_steps {a b : Nat} {d : Array Int} (h : ∀ t, a < t → t < b → ltInt d[t]! d[t - 1]! = false) : SortedIn ltInt a b d := by
  have : ∀ m i, a ≤ i → i + m < b → d[i]! ≤ d[i + m]! := by
    intro m
    induction m with
    | zero => intro i _ _; exact Int.le_refl _
    | succ m ih =>
      intro i h1 h2
      have h3 := ih i h1 (by omega)
      have h4 := h (i + m + 1) (by omega) (by omega)
      have h5 : d[i + m]! ≤ d[i + m + 1]! := by simpa [ltInt] using h4
      exact Int.le_trans h3 h5
  intro i j h1 h2 h3
  have h4 := this (j - i) i h1 (by omega)
  rw [show i + (j - i) = j from by omega] at h4
  simpa [ltInt] using h4
theorem partInsB_any (g off cap a b n : Nat) (d : Array Int) (w : World) (h : Hb g off d w) (hn : d.size = n) (hab : a < b) (hb : b ≤ n) (hs : n ≤ 40) :
    Calls Try.prog 48 #[.slice (some ⟨g, off, none⟩) n cap, .int .i64 a, .int .i64 b] w fun e w' => ∃ fl : Bool, e = .returned (.bool fl) ∧ (fl = true → SortedIn ltInt a b d) ∧ Hb g off d w' ∧ Kg g w w' := by
  go_enter Try.func48, Try.ntmps48
  go_wp2
  go_loopw [7, 8] (fun v7 v8 wr => v7 = .int .i64 ((a + 1 : Nat) : Int) ∧ v8 = .int .i64 0 ∧ Hb g off d wr ∧ Kg g w wr) (fun v7 v8 _ => 0)
  case atStart => exact ⟨by go_num, rfl, h, Kp.refl _ _⟩
  case round =>
    obtain ⟨rfl, rfl, hh, hk⟩ := hrel
    clear h
    have hst : ∃ i : Nat, i = a + 1 := ⟨_, rfl⟩
    obtain ⟨i0, hi0⟩ := hst
    rw [← hi0]
    go_wp2
    go_loopw [7] (fun v wr => ∃ i : Nat, v = .int .i64 i ∧ a < i ∧ i ≤ b ∧ (∀ t, a < t → t < i → ltInt d[t]! d[t - 1]! = false) ∧ Hb g off d wr ∧ Kg g w wr) (fun v _ => b - (intOf v).toNat)
    case atStart => exact ⟨i0, rfl, by omega, by omega, fun t _ _ => by omega, hh, hk⟩
    case round =>
      clear hh hk
      obtain ⟨i, rfl, hai, hib, hst, hh, hk⟩ := hrel
      have HST := Lib.hid hst
      clear hst
      obtain ⟨G, HG, hc, hf⟩ := hh.fam hn
      by_cases hlt : i < b
      · have s1 : i < n := by omega
        have s2 : i - 1 < n := by omega
        cases hl : ltInt (G i) (G (i - 1))
        · have HS2 : Hid (∀ t, a < t → t < i + 1 → ltInt d[t]! d[t - 1]! = false) := fun t t1 t2 => by
            by_cases e : t = i
            · rw [e, ← HG.out, ← HG.out]; exact hl
            · exact HST.out t t1 (by omega)
          go_wp2
          go_quiet (first | (go_at_call 49; refine Calls.quiet_of_same (lessB_any _ _ _)))
          go_wp2
          go_roundw
          case rel => exact ⟨i + 1, by go_num, by omega, by omega, HS2.out, hh.drewN _, hk.drewN _⟩
          case measure => simp [intOf]; omega
        · go_wp2
          go_quiet (first | (go_at_call 49; refine Calls.quiet_of_same (lessB_any _ _ _)))
          have hne : i ≠ b := by omega
          go_wp2
          go_ret
          exact ⟨false, rfl, (fun e => by cases e), hh.drewN _, hk.drewN _⟩
      · obtain rfl : i = b := by omega
        go_wp2
        go_quiet (first | (go_at_call 49; refine Calls.quiet_of_same (lessB_any _ _ _)))
        go_wp2
        go_ret
        exact ⟨true, rfl, fun _ => sorted_of_steps HST.out, hh.drewN _, hk.drewN _⟩

end Go.Proofs.Ytcfbnlkkoifiiaa
