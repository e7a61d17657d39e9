/-
  Marks on acts and on scripts: that they are written, that they are held.
-/
import Derived.Test.YtcfbnlkkoifiiaaDoorMkA
namespace Go.Proofs.YtcfbnlkkoifiiaaDoor
set_option maxRecDepth 100000
open Go.RowKit

set_option maxHeartbeats 800000 in
theorem markActS_at (g n c : Nat) (base : Nat) (k0 : Int) (xs : List AX) (w : World) (h : Own w base 49 4 eAct (.slice (some ⟨g, 0, none⟩) n c) xs) (hn : n ≤ 1048577) (hk0 : 0 ≤ k0) (hk1 : k0 ≤ 16777216) :
    Calls Tryd.prog 21 #[.slice (some ⟨g, 0, none⟩) n c, .int .i64 k0] w fun e w' => e = .returned (.int .i64 (k0 + n * 4)) ∧ Own w' base 49 4 eAct (.slice (some ⟨g, 0, none⟩) n c) (marksA k0 n) ∧ w.grownBy w' (some g) := by
  have hl : xs.length = n := (h.sl eAct_len).1
  go_enter Tryd.func21, Tryd.ntmps21
  go_wp2
  go_loopw [1, 5] (fun q i wr => ∃ k : Nat, k ≤ n ∧ i = .int .i64 k ∧ q = .int .i64 (k0 + k * 4) ∧ Own wr base 49 4 eAct (.slice (some ⟨g, 0, none⟩) n c) (overK (marksA k0 n) xs k) ∧ w.grownBy wr (some g)) (fun _ i _ => n - (intOf i).toNat)
  case atStart => exact ⟨0, by omega, rfl, by simp, by simpa [overK] using h, World.grownBy.refl _ _⟩
  case round =>
    obtain ⟨k, hk, rfl, rfl, ho, hg⟩ := hrel
    by_cases hlt : k < n
    · obtain ⟨y, _, hy⟩ := overK_get (marksA_len k0 n) hl hlt
      have hkl : k < (overK (marksA k0 n) xs k).length := (List.getElem?_eq_some_iff.1 hy).1
      have d0 : wr.cell? ⟨g, k * 4, none⟩ = some (.int .i64 y.1) := ho.cell eAct_len hy (j := 0) rfl
      have g0 := ho.free (k * 4)
      have ho1 : Own (wr.setCell ⟨g, k * 4, none⟩ (.int .i64 (k0 + k * 4))) base 49 4 eAct (.slice (some ⟨g, 0, none⟩) n c) ((overK (marksA k0 n) xs k).set k (k0 + k * 4, y.2)) := ho.setAct1 hy (j := 0) (by omega) rfl
      have hg1 : w.grownBy (wr.setCell ⟨g, k * 4, none⟩ (.int .i64 (k0 + k * 4))) (some g) := only_setCell hg (.inl rfl) _
      have hy1 : ((overK (marksA k0 n) xs k).set k (k0 + k * 4, y.2))[k]? = some (k0 + k * 4, y.2) := by rw [List.getElem?_set_self hkl]
      go_wp2_with fail
      clear d0 g0 ho hg
      generalize wr.setCell ⟨g, k * 4, none⟩ (.int .i64 (k0 + k * 4)) = W1 at ho1 hg1 ⊢
      refine (markText_any _ _ (by omega)).mono ?_
      rintro e w5 ⟨rfl, hb5⟩
      have ho5 := ho1.below hb5
      have hg5 := grown_trans hg1 (grown_below hb5)
      have d1 : w5.cell? ⟨g, k * 4 + 1, none⟩ = some (.string y.2.1) := ho5.cell eAct_len hy1 (j := 1) rfl
      have g1 := ho5.free (k * 4 + 1)
      generalize hT1 : mkT (k0 + k * 4 + 1) = T1
      have hT1 := Lib.hid hT1
      have ho6 : Own (w5.setCell ⟨g, k * 4 + 1, none⟩ (.string T1)) base 49 4 eAct (.slice (some ⟨g, 0, none⟩) n c) (((overK (marksA k0 n) xs k).set k (k0 + k * 4, y.2)).set k (k0 + k * 4, T1, y.2.2)) := ho5.setAct1 hy1 (j := 1) (by omega) rfl
      have hg6 : w.grownBy (w5.setCell ⟨g, k * 4 + 1, none⟩ (.string T1)) (some g) := only_setCell hg5 (.inl rfl) _
      rw [List.set_set] at ho6
      have hy6 : ((overK (marksA k0 n) xs k).set k (k0 + k * 4, T1, y.2.2))[k]? = some (k0 + k * 4, T1, y.2.2) := by rw [List.getElem?_set_self hkl]
      go_wp2_with fail
      clear d1 g1 ho5 hg5 ho1 hy1 hb5 hg1
      generalize w5.setCell ⟨g, k * 4 + 1, none⟩ (.string T1) = W6 at ho6 hg6 ⊢
      refine (markText_any _ _ (by omega)).mono ?_
      rintro e w7 ⟨rfl, hb7⟩
      have ho7 := ho6.below hb7
      have hg7 := grown_trans hg6 (grown_below hb7)
      have d2 : w7.cell? ⟨g, k * 4 + 2, none⟩ = some (.string y.2.2.1) := ho7.cell eAct_len hy6 (j := 2) rfl
      have d3 : w7.cell? ⟨g, k * 4 + 3, none⟩ = some (.int .i64 y.2.2.2) := ho7.cell eAct_len hy6 (j := 3) rfl
      have g2 := ho7.free (k * 4 + 2)
      have g3 := ho7.free (k * 4 + 3)
      generalize hT2 : mkT (k0 + k * 4 + 1 + 1) = T2
      have hT2 := Lib.hid hT2
      have ho8 : Own (w7.setCell ⟨g, k * 4 + 2, none⟩ (.string T2)) base 49 4 eAct (.slice (some ⟨g, 0, none⟩) n c) (((overK (marksA k0 n) xs k).set k (k0 + k * 4, T1, y.2.2)).set k (k0 + k * 4, T1, T2, y.2.2.2)) := ho7.setAct1 hy6 (j := 2) (by omega) rfl
      rw [List.set_set] at ho8
      have hy8 : ((overK (marksA k0 n) xs k).set k (k0 + k * 4, T1, T2, y.2.2.2))[k]? = some (k0 + k * 4, T1, T2, y.2.2.2) := by rw [List.getElem?_set_self hkl]
      have ho9 : Own ((w7.setCell ⟨g, k * 4 + 2, none⟩ (.string T2)).setCell ⟨g, k * 4 + 3, none⟩ (.int .i64 (k0 + k * 4 + 1 + 1 + 1))) base 49 4 eAct (.slice (some ⟨g, 0, none⟩) n c) (((overK (marksA k0 n) xs k).set k (k0 + k * 4, T1, T2, y.2.2.2)).set k (k0 + k * 4, T1, T2, k0 + k * 4 + 1 + 1 + 1)) := ho8.setAct1 hy8 (j := 3) (by omega) rfl
      rw [List.set_set] at ho9
      go_wp2
      go_roundw
      case rel => exact ⟨k + 1, by omega, by go_num, by go_num, by rw [← overK_set (marksA_len k0 n) hl (marksA_get k0 hlt), hT1.out, hT2.out]; exact ho9, only_setCell (only_setCell hg7 (.inl rfl) _) (.inl rfl) _⟩
      case measure => simp [intOf]; omega
    · go_wp2
      go_ret
      have : k = n := by omega
      subst this
      exact ⟨rfl, by rw [← overK_all (marksA_len k0 k) hl]; exact ho, hg⟩
theorem markActS_any (A : Option Addr) (n c : Nat) (base : Nat) (k0 : Int) (xs : List AX) (w : World) (h : Own w base 49 4 eAct (.slice A n c) xs) (hn : n ≤ 1048577) (hk0 : 0 ≤ k0) (hk1 : k0 ≤ 16777216) :
    Calls Tryd.prog 21 #[.slice A n c, .int .i64 k0] w fun e w' => e = .returned (.int .i64 (k0 + n * 4)) ∧ Own w' base 49 4 eAct (.slice A n c) (marksA k0 n) ∧ w.grownBy w' (Value.slice A n c).ownBlock := by
  rcases h.form with ⟨rfl, rfl, rfl, rfl⟩ | ⟨g, rfl⟩
  · go_enter Tryd.func21, Tryd.ntmps21
    go_wp2
    refine wp_loop_rounds 1 ?_
    rw [rounds_succ]
    go_wp2
    go_ret
    exact ⟨by simp, h, World.grownBy.refl _ _⟩
  · exact markActS_at g n c base k0 xs w h hn hk0 hk1

set_option maxHeartbeats 3200000 in
theorem heldActS_any (A : Option Addr) (n c : Nat) (k0 : Int) (w : World) (h : Sl w 4 eAct A n (marksA k0 n)) (hn : n ≤ 1048577) (hk0 : 0 ≤ k0) (hk1 : k0 ≤ 16777216) :
    Calls Tryd.prog 23 #[.slice A n c, .int .i64 k0] w fun e w' => e = .returned (.int .i64 (k0 + n * 4)) ∧ Below w.heap.size w w' := by
  go_enter Tryd.func23, Tryd.ntmps23
  go_wp2
  go_loopw [1, 5] (fun q i wr => ∃ k : Nat, k ≤ n ∧ i = .int .i64 k ∧ q = .int .i64 (k0 + k * 4) ∧ Below w.heap.size w wr) (fun _ i _ => n - (intOf i).toNat)
  case atStart => exact ⟨0, by omega, rfl, by simp, Below.refl _ _⟩
  case round =>
    obtain ⟨k, hk, rfl, rfl, hb⟩ := hrel
    by_cases hlt : k < n
    · obtain ⟨b, off, x, rfl, hx, _, c0, c1, c2, c3⟩ := (h.below hb).atAct hlt
      rw [marksA_get k0 hlt] at hx
      cases hx
      have g1 : (0 : Int) ≤ (k : Int) := by omega
      have g2 : (k : Int) < (n : Int) := by omega
      go_wp2_with fail
      go_region_held3 (fun w' => Below wr.heap.size wr w' ∧ w'.cell? ⟨b, off + k * 4 + 1, none⟩ = some (.string (mkT (k0 + k * 4 + 1))) ∧ w'.cell? ⟨b, off + k * 4 + 2, none⟩ = some (.string (mkT (k0 + k * 4 + 1 + 1))) ∧ w'.cell? ⟨b, off + k * 4 + 3, none⟩ = some (.int .i64 (k0 + k * 4 + 1 + 1 + 1)))
        (first
          | exact ⟨(Below.refl _ _).drew, c1, c2, c3⟩
          | assumption
          | (obtain ⟨hq1, p0, p1, p2⟩ := (show Below wr.heap.size wr _ ∧ World.cell? _ ⟨b, off + k * 4 + 1, none⟩ = some (.string (mkT (k0 + k * 4 + 1))) ∧ World.cell? _ ⟨b, off + k * 4 + 2, none⟩ = some (.string (mkT (k0 + k * 4 + 1 + 1))) ∧ World.cell? _ ⟨b, off + k * 4 + 3, none⟩ = some (.int .i64 (k0 + k * 4 + 1 + 1 + 1)) from by assumption)
             exact ⟨below_mid hq1 hbm hq1.size, (hbm.cell (World.block_lt_of_cell? _ _ p0)).trans p0, (hbm.cell (World.block_lt_of_cell? _ _ p1)).trans p1, (hbm.cell (World.block_lt_of_cell? _ _ p2)).trans p2⟩)
          | trace_state)
        (first
          | (go_at_call 34; refine (markText_any _ _ (by omega)).mono ?_; rintro r wm ⟨rfl, hbm⟩))
      all_goals (
        obtain ⟨hbu, p1, p2, p3⟩ := (show Below wr.heap.size wr _ ∧ World.cell? _ ⟨b, off + k * 4 + 1, none⟩ = some (.string (mkT (k0 + k * 4 + 1))) ∧ World.cell? _ ⟨b, off + k * 4 + 2, none⟩ = some (.string (mkT (k0 + k * 4 + 1 + 1))) ∧ World.cell? _ ⟨b, off + k * 4 + 3, none⟩ = some (.int .i64 (k0 + k * 4 + 1 + 1 + 1)) from by assumption)
        clear c1 c2
        go_wp2_with fail
        go_region_held3 (fun w' => Below wr.heap.size wr w' ∧ w'.cell? ⟨b, off + k * 4 + 1, none⟩ = some (.string (mkT (k0 + k * 4 + 1))) ∧ w'.cell? ⟨b, off + k * 4 + 2, none⟩ = some (.string (mkT (k0 + k * 4 + 1 + 1))) ∧ w'.cell? ⟨b, off + k * 4 + 3, none⟩ = some (.int .i64 (k0 + k * 4 + 1 + 1 + 1)))
          (first
            | exact ⟨hbu.drew, p1, p2, p3⟩
            | assumption
            | (obtain ⟨hq1, p0, p1, p2⟩ := (show Below wr.heap.size wr _ ∧ World.cell? _ ⟨b, off + k * 4 + 1, none⟩ = some (.string (mkT (k0 + k * 4 + 1))) ∧ World.cell? _ ⟨b, off + k * 4 + 2, none⟩ = some (.string (mkT (k0 + k * 4 + 1 + 1))) ∧ World.cell? _ ⟨b, off + k * 4 + 3, none⟩ = some (.int .i64 (k0 + k * 4 + 1 + 1 + 1)) from by assumption)
               exact ⟨below_mid hq1 hbm hq1.size, (hbm.cell (World.block_lt_of_cell? _ _ p0)).trans p0, (hbm.cell (World.block_lt_of_cell? _ _ p1)).trans p1, (hbm.cell (World.block_lt_of_cell? _ _ p2)).trans p2⟩)
            | trace_state)
          (first
            | (go_at_call 34; refine (markText_any _ _ (by omega)).mono ?_; rintro r wm ⟨rfl, hbm⟩))
        all_goals (
          obtain ⟨hbv, q1, q2, q3⟩ := (show Below wr.heap.size wr _ ∧ World.cell? _ ⟨b, off + k * 4 + 1, none⟩ = some (.string (mkT (k0 + k * 4 + 1))) ∧ World.cell? _ ⟨b, off + k * 4 + 2, none⟩ = some (.string (mkT (k0 + k * 4 + 1 + 1))) ∧ World.cell? _ ⟨b, off + k * 4 + 3, none⟩ = some (.int .i64 (k0 + k * 4 + 1 + 1 + 1)) from by assumption)
          have hb9 := below_mid hb hbv hb.size
          go_wp2_with fail
          go_roundw))
      all_goals first
        | exact ⟨k + 1, by omega, by go_num, by go_num, by assumption⟩
        | (simp [intOf]; omega)
    · go_wp2
      go_ret
      have : k = n := by omega
      subst this
      exact ⟨rfl, hb⟩

end Go.Proofs.YtcfbnlkkoifiiaaDoor
