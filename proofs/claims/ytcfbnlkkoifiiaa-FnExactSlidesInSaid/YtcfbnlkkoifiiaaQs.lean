/-
  Rows of bytes that are sorted in place: what a row holds, an exchange, what a call keeps.
-/
import Derived.Test.YtcfbnlkkoifiiaaBase
import Derived.Test.YtcfbnlkkoifiiaaKp
import Derived.Sort.WalkA
import Derived.Sort.WalkB3
namespace Go.Proofs.Ytcfbnlkkoifiiaa
open Go.RowKit Go.Sort

/-- a row of bytes holds d, none of it frozen -/
def Hb (g off : Nat) (d : Array Int) (w : World) : Prop := ∀ t, t < d.size → w.cell? ⟨g, off + t, none⟩ = some (.int .u8 d[t]!) ∧ w.frozen? ⟨g, off + t, none⟩ = false
/-- all but block g is kept -/
abbrev Kg (g : Nat) (w w' : World) : Prop := Kp (fun k => k = g) w w'
theorem Hb.drewN {g off : Nat} {d : Array Int} {w : World} (h : Hb g off d w) (m : Nat) : Hb g off d (w.drewN m) := h
theorem Hb.drew {g off : Nat} {d : Array Int} {w : World} (h : Hb g off d w) : Hb g off d w.drew := h
theorem Kg.drewN {g : Nat} {w w' : World} (h : Kg g w w') (m : Nat) : Kg g w (w'.drewN m) := h.trans ⟨rfl, rfl, rfl, Nat.le_refl _, fun _ _ _ => rfl⟩
theorem Kg.drew {g : Nat} {w w' : World} (h : Kg g w w') : Kg g w w'.drew := h.drewN 1
theorem Hb.set {g off : Nat} {d : Array Int} {w : World} (h : Hb g off d w) {i : Nat} (hi : i < d.size) (x : Int) : Hb g off (d.setIfInBounds i x) (w.setCell ⟨g, off + i, none⟩ (.int .u8 x)) := by
  intro t ht
  have hs : t < d.size := by simpa using ht
  refine ⟨?_, by rw [World.frozen?_setCell]; exact (h t hs).2⟩
  by_cases e : t = i
  · subst e
    rw [World.cell?_setCell_same _ _ _ (h t hs).1, getElem!_set_same _ _ _ hi]
  · rw [World.cell?_setCell_other _ _ _ _ (by intro e2; injection e2; omega), (h t hs).1, getElem!_set_other _ _ _ _ e]
theorem Hb.swp {g off : Nat} {d : Array Int} {w : World} (h : Hb g off d w) {i j : Nat} (hi : i < d.size) (hj : j < d.size) :
    Hb g off (swp d i j) ((w.setCell ⟨g, off + i, none⟩ (.int .u8 d[j]!)).setCell ⟨g, off + j, none⟩ (.int .u8 d[i]!)) := (h.set hi _).set (by simpa using hj) _
theorem Kg.swp {g : Nat} {w w' : World} (h : Kg g w w') {a b : Nat} {x y : Value} : Kg g w ((w'.setCell ⟨g, a, none⟩ x).setCell ⟨g, b, none⟩ y) := (h.setCell rfl _).setCell rfl _
/-- the row's contents under a name of their own -/
theorem Hb.fam {g off n : Nat} {d : Array Int} {w : World} (h : Hb g off d w) (hn : d.size = n) : ∃ G : Nat → Int, Hid (∀ t, G t = d[t]!) ∧ (∀ t, t < n → w.cell? ⟨g, off + t, none⟩ = some (.int .u8 (G t))) ∧ (∀ t, t < n → w.frozen? ⟨g, off + t, none⟩ = false) :=
  ⟨fun t => d[t]!, fun _ => rfl, fun t ht => (h t (by omega)).1, fun t ht => (h t (by omega)).2⟩
theorem Hb.keep {g off : Nat} {d : Array Int} {w w' : World} (h : Hb g off d w) (hc : ∀ t, t < d.size → w'.cell? ⟨g, off + t, none⟩ = w.cell? ⟨g, off + t, none⟩) (hf : ∀ t, t < d.size → w'.frozen? ⟨g, off + t, none⟩ = w.frozen? ⟨g, off + t, none⟩) : Hb g off d w' :=
  fun t ht => ⟨(hc t ht).trans (h t ht).1, (hf t ht).trans (h t ht).2⟩

theorem isNaNB_any (x : Int) (w : World) : Calls Try.prog 60 #[.int .u8 x] w fun e w' => e = .returned (.bool false) ∧ w' = w := by
  go_enter Try.func60, Try.ntmps60
  go_wp2
  go_ret
  exact ⟨ret_bool (by simp), rfl⟩
theorem lessB_any (x y : Int) (w : World) : Calls Try.prog 49 #[.int .u8 x, .int .u8 y] w fun e w' => e = .returned (.bool (ltInt x y)) ∧ w' = w := by
  go_enter Try.func49, Try.ntmps49
  go_wp2_with (go_at_call 60; refine (isNaNB_any _ _).mono ?_; rintro e w2 ⟨rfl, rfl⟩)
  go_ret
  exact ⟨ret_bool (by simp [ltInt]), rfl⟩

theorem insSortB_any (g off cap a b n : Nat) (d : Array Int) (w : World) (h : Hb g off d w) (hn : d.size = n) (hab : a ≤ b) (hb : b ≤ n) (hs : n ≤ 40) :
    Calls Try.prog 43 #[.slice (some ⟨g, off, none⟩) n cap, .int .i64 a, .int .i64 b] w fun e w' => e = .returned (.tuple #[]) ∧ Hb g off (Sort.insertionSort ltInt d a b) w' ∧ Kg g w w' := by
  go_enter Try.func43, Try.ntmps43
  go_wp2
  go_loopw [6] (fun v wr => ∃ (i : Nat) (dk : Array Int), v = .int .i64 i ∧ a < i ∧ i ≤ b + 1 ∧ dk.size = n ∧ Hid (insOuter ltInt a b i dk = insOuter ltInt a b (a + 1) d) ∧ Hb g off dk wr ∧ Kg g w wr) (fun v _ => b + 1 - (intOf v).toNat)
  case atStart => exact ⟨a + 1, d, by go_num, by omega, by omega, hn, rfl, h, Kp.refl _ _⟩
  case round =>
    obtain ⟨i, dk, rfl, hai, hib, hdk, hO, hh, hk⟩ := hrel
    by_cases hlt : i < b
    · go_wp2
      go_loopw [7] (fun v wr => ∃ (j : Nat) (dj : Array Int), v = .int .i64 j ∧ a ≤ j ∧ j ≤ i ∧ dj.size = n ∧ Hid (insInner ltInt a j dj = insInner ltInt a i dk) ∧ Hb g off dj wr ∧ Kg g w wr) (fun v _ => (intOf v).toNat)
      case atStart => exact ⟨i, dk, rfl, by omega, by omega, hdk, rfl, hh, hk⟩
      case round =>
        obtain ⟨j, dj, rfl, haj, hji, hdj, hI, hj, hkj⟩ := hrel
        obtain ⟨G, HG, hc, hf⟩ := hj.fam hdj
        by_cases hja : a < j
        · cases hl : ltInt (G j) (G (j - 1))
          · have HS : Hid (insOuter ltInt a b (i + 1) dj = insOuter ltInt a b (a + 1) d) := by rw [Hid, ← hO.out, insOuter_go _ _ _ _ _ hlt, ← hI.out, insInner_stop _ _ _ _ (.inr (by rw [← HG.out, ← HG.out]; exact hl))]
            go_wp2
            go_quiet (first | (go_at_call 49; refine Calls.quiet_of_same (lessB_any _ _ _)))
            go_wp2
            go_roundw
            case rel => exact ⟨i + 1, dj, by go_num, by omega, by omega, hdj, HS, hj.drewN _, hkj.drewN _⟩
            case measure => simp [intOf]; omega
          · have HS : Hid (insInner ltInt a (j - 1) (swp dj j (j - 1)) = insInner ltInt a i dk) := by rw [Hid, ← hI.out, insInner_go ltInt a j dj hja (by rw [← HG.out, ← HG.out]; exact hl)]
            go_wp2
            go_quiet (first | (go_at_call 49; refine Calls.quiet_of_same (lessB_any _ _ _)))
            go_wp2
            go_region
            all_goals go_wp2
            go_roundw
            case rel =>
              refine ⟨j - 1, swp dj j (j - 1), by congr 1; omega, by omega, by omega, by rw [size_swp]; exact hdj, HS, ?_, ?_⟩
              · rw [HG.out, HG.out]
                exact (hj.drewN _).swp (by omega) (by omega)
              · exact (hkj.drewN _).swp
            case measure => simp [intOf]; omega
        · have HS : Hid (insOuter ltInt a b (i + 1) dj = insOuter ltInt a b (a + 1) d) := by rw [Hid, ← hO.out, insOuter_go _ _ _ _ _ hlt, ← hI.out, insInner_stop _ _ _ _ (.inl (by omega))]
          go_wp2
          go_quiet (first | (go_at_call 49; refine Calls.quiet_of_same (lessB_any _ _ _)))
          go_wp2
          go_roundw
          case rel => exact ⟨i + 1, dj, by go_num, by omega, by omega, hdj, HS, hj.drewN _, hkj.drewN _⟩
          case measure => simp [intOf]; omega
    · go_wp2
      go_end0
      exact ⟨rfl, by unfold Sort.insertionSort; rw [← hO.out, insOuter_stop _ _ _ _ _ hlt]; exact hh, hk⟩

end Go.Proofs.Ytcfbnlkkoifiiaa
