/-
  The heap sort on bytes; rows turned round; the part that is sorted already.
-/
import Derived.Test.YtcfbnlkkoifiiaaQs
namespace Go.Proofs.Ytcfbnlkkoifiiaa
open Go.RowKit Go.Sort

set_option maxHeartbeats 3200000 in
theorem siftB_any (g off cap lo hi F n : Nat) (d : Array Int) (w : World) (h : Hb g off d w) (hn : d.size = n) (hlo : lo ≤ hi) (hb : F + hi ≤ n) (hs : n ≤ 40) :
    Calls Try.prog 55 #[.slice (some ⟨g, off, none⟩) n cap, .int .i64 lo, .int .i64 hi, .int .i64 F] w fun e w' => e = .returned (.tuple #[]) ∧ Hb g off (siftDown ltInt hi F lo d) w' ∧ Kg g w w' := by
  go_enter Try.func55, Try.ntmps55
  go_wp2
  go_loopw [8] (fun v wr => ∃ (root : Nat) (dk : Array Int), v = .int .i64 root ∧ root ≤ hi ∧ dk.size = n ∧ Hid (siftDown ltInt hi F root dk = siftDown ltInt hi F lo d) ∧ Hb g off dk wr ∧ Kg g w wr) (fun v _ => hi - (intOf v).toNat)
  case atStart => exact ⟨lo, d, rfl, hlo, hn, rfl, h, Kp.refl _ _⟩
  case round =>
    obtain ⟨root, dk, rfl, hrt, hdk, hS, hh, hk⟩ := hrel
    obtain ⟨G, HG, hc, hf⟩ := hh.fam hdk
    by_cases hend : hi ≤ 2 * root + 1
    · have HS : Hid (siftDown ltInt hi F lo d = dk) := by rw [Hid, ← hS.out]; exact sd_end _ _ hend
      go_wp2
      go_end0
      exact ⟨rfl, by rw [HS.out]; exact hh, hk⟩
    · have r1 : IntKind.i64.wrap (2 * (root : Int) + 1 + 1) = 2 * (root : Int) + 1 + 1 := IntWalk.i64_in _ (by omega)
      have r2 : IntKind.i64.wrap ((F : Int) + (root : Int)) = (F : Int) + (root : Int) := IntWalk.i64_in _ (by omega)
      have s1 : (0 : Int) ≤ (F : Int) + (root : Int) := by omega
      have s2 : (F : Int) + (root : Int) < (n : Int) := by omega
      have s3 : F + root < n := by omega
      by_cases h2 : 2 * root + 2 < hi
      · have q1 : decide (2 * (root : Int) + 1 + 1 < (hi : Int)) = true := decide_eq_true (by omega)
        cases l1 : ltInt (G (F + 2 * root + 1)) (G (F + 2 * root + 2))
        · cases l3 : ltInt (G (F + root)) (G (F + 2 * root + 1))
          · have HS : Hid (siftDown ltInt hi F lo d = dk) := by rw [Hid, ← hS.out]; exact sd_left_stop _ _ (by omega) (fun _ => (by rw [← HG.out, ← HG.out]; exact l1)) (by rw [← HG.out, ← HG.out]; exact l3)
            go_wp2
            go_quiet (first | (go_at_call 49; refine Calls.quiet_of_same (lessB_any _ _ _)))
            generalize hW : wr.drewN nq = wt
            replace hh : Hb g off dk wt := by rw [← hW]; exact hh.drewN _
            replace hk : Kg g w wt := by rw [← hW]; exact hk.drewN _
            replace hc : ∀ t, t < n → wt.cell? ⟨g, off + t, none⟩ = some (.int .u8 (G t)) := by rw [← hW]; exact hc
            replace hf : ∀ t, t < n → wt.frozen? ⟨g, off + t, none⟩ = false := by rw [← hW]; exact hf
            clear hW
            go_wp2
            go_quiet (first | (go_at_call 49; refine Calls.quiet_of_same (lessB_any _ _ _)))
            go_wp2
            refine bodyPost_ret (results_none rfl _ _ _) rfl ?_
            exact ⟨rfl, by rw [HS.out]; exact hh.drewN _, hk.drewN _⟩
          · have HS : Hid (siftDown ltInt hi F (2 * root + 1) (swp dk (F + root) (F + (2 * root + 1))) = siftDown ltInt hi F lo d) := by rw [Hid, ← hS.out]; exact (sd_left_go _ _ (by omega) (fun _ => (by rw [← HG.out, ← HG.out]; exact l1)) (by rw [← HG.out, ← HG.out]; exact l3)).symm
            go_wp2
            go_quiet (first | (go_at_call 49; refine Calls.quiet_of_same (lessB_any _ _ _)))
            generalize hW : wr.drewN nq = wt
            replace hh : Hb g off dk wt := by rw [← hW]; exact hh.drewN _
            replace hk : Kg g w wt := by rw [← hW]; exact hk.drewN _
            replace hc : ∀ t, t < n → wt.cell? ⟨g, off + t, none⟩ = some (.int .u8 (G t)) := by rw [← hW]; exact hc
            replace hf : ∀ t, t < n → wt.frozen? ⟨g, off + t, none⟩ = false := by rw [← hW]; exact hf
            clear hW
            go_wp2
            go_quiet (first | (go_at_call 49; refine Calls.quiet_of_same (lessB_any _ _ _)))
            go_wp2
            go_region
            all_goals go_wp2
            go_roundw
            case rel =>
              refine ⟨2 * root + 1, swp dk (F + root) (F + (2 * root + 1)), by go_num, by omega, by rw [size_swp]; exact hdk, HS, ?_, ?_⟩
              · have hhq := ((hh.drewN 0).swp (i := F + root) (j := F + (2 * root + 1)) (by omega) (by omega))
                simp only [HG.out]
                first | exact hhq | exact hhq.drew | exact hhq.drewN _
              · first | exact hk.swp | exact hk.swp.drew | exact (hk.swp.drewN _)
            case measure => simp [intOf]; omega
        · cases l3 : ltInt (G (F + root)) (G (F + 2 * root + 2))
          · have HS : Hid (siftDown ltInt hi F lo d = dk) := by rw [Hid, ← hS.out]; exact sd_right_stop _ _ h2 (by rw [← HG.out, ← HG.out]; exact l1) (by rw [← HG.out, ← HG.out]; exact l3)
            go_wp2
            go_quiet (first | (go_at_call 49; refine Calls.quiet_of_same (lessB_any _ _ _)))
            generalize hW : wr.drewN nq = wt
            replace hh : Hb g off dk wt := by rw [← hW]; exact hh.drewN _
            replace hk : Kg g w wt := by rw [← hW]; exact hk.drewN _
            replace hc : ∀ t, t < n → wt.cell? ⟨g, off + t, none⟩ = some (.int .u8 (G t)) := by rw [← hW]; exact hc
            replace hf : ∀ t, t < n → wt.frozen? ⟨g, off + t, none⟩ = false := by rw [← hW]; exact hf
            clear hW
            go_wp2
            go_quiet (first | (go_at_call 49; refine Calls.quiet_of_same (lessB_any _ _ _)))
            go_wp2
            refine bodyPost_ret (results_none rfl _ _ _) rfl ?_
            exact ⟨rfl, by rw [HS.out]; exact hh.drewN _, hk.drewN _⟩
          · have HS : Hid (siftDown ltInt hi F (2 * root + 2) (swp dk (F + root) (F + (2 * root + 2))) = siftDown ltInt hi F lo d) := by rw [Hid, ← hS.out]; exact (sd_right_go _ _ h2 (by rw [← HG.out, ← HG.out]; exact l1) (by rw [← HG.out, ← HG.out]; exact l3)).symm
            go_wp2
            go_quiet (first | (go_at_call 49; refine Calls.quiet_of_same (lessB_any _ _ _)))
            generalize hW : wr.drewN nq = wt
            replace hh : Hb g off dk wt := by rw [← hW]; exact hh.drewN _
            replace hk : Kg g w wt := by rw [← hW]; exact hk.drewN _
            replace hc : ∀ t, t < n → wt.cell? ⟨g, off + t, none⟩ = some (.int .u8 (G t)) := by rw [← hW]; exact hc
            replace hf : ∀ t, t < n → wt.frozen? ⟨g, off + t, none⟩ = false := by rw [← hW]; exact hf
            clear hW
            go_wp2
            go_quiet (first | (go_at_call 49; refine Calls.quiet_of_same (lessB_any _ _ _)))
            go_wp2
            go_region
            all_goals go_wp2
            go_roundw
            case rel =>
              refine ⟨2 * root + 2, swp dk (F + root) (F + (2 * root + 2)), by go_num, by omega, by rw [size_swp]; exact hdk, HS, ?_, ?_⟩
              · have hhq := ((hh.drewN 0).swp (i := F + root) (j := F + (2 * root + 2)) (by omega) (by omega))
                simp only [HG.out]
                first | exact hhq | exact hhq.drew | exact hhq.drewN _
              · first | exact hk.swp | exact hk.swp.drew | exact (hk.swp.drewN _)
            case measure => simp [intOf]; omega
      · have q1 : decide (2 * (root : Int) + 1 + 1 < (hi : Int)) = false := decide_eq_false (by omega)
        cases l3 : ltInt (G (F + root)) (G (F + 2 * root + 1))
        · have HS : Hid (siftDown ltInt hi F lo d = dk) := by rw [Hid, ← hS.out]; exact sd_left_stop _ _ (by omega) (fun e => absurd e h2) (by rw [← HG.out, ← HG.out]; exact l3)
          go_wp2
          go_quiet (first | (go_at_call 49; refine Calls.quiet_of_same (lessB_any _ _ _)))
          generalize hW : wr.drewN nq = wt
          replace hh : Hb g off dk wt := by rw [← hW]; exact hh.drewN _
          replace hk : Kg g w wt := by rw [← hW]; exact hk.drewN _
          replace hc : ∀ t, t < n → wt.cell? ⟨g, off + t, none⟩ = some (.int .u8 (G t)) := by rw [← hW]; exact hc
          replace hf : ∀ t, t < n → wt.frozen? ⟨g, off + t, none⟩ = false := by rw [← hW]; exact hf
          clear hW
          go_wp2
          go_quiet (first | (go_at_call 49; refine Calls.quiet_of_same (lessB_any _ _ _)))
          go_wp2
          refine bodyPost_ret (results_none rfl _ _ _) rfl ?_
          exact ⟨rfl, by rw [HS.out]; exact hh.drewN _, hk.drewN _⟩
        · have HS : Hid (siftDown ltInt hi F (2 * root + 1) (swp dk (F + root) (F + (2 * root + 1))) = siftDown ltInt hi F lo d) := by rw [Hid, ← hS.out]; exact (sd_left_go _ _ (by omega) (fun e => absurd e h2) (by rw [← HG.out, ← HG.out]; exact l3)).symm
          go_wp2
          go_quiet (first | (go_at_call 49; refine Calls.quiet_of_same (lessB_any _ _ _)))
          generalize hW : wr.drewN nq = wt
          replace hh : Hb g off dk wt := by rw [← hW]; exact hh.drewN _
          replace hk : Kg g w wt := by rw [← hW]; exact hk.drewN _
          replace hc : ∀ t, t < n → wt.cell? ⟨g, off + t, none⟩ = some (.int .u8 (G t)) := by rw [← hW]; exact hc
          replace hf : ∀ t, t < n → wt.frozen? ⟨g, off + t, none⟩ = false := by rw [← hW]; exact hf
          clear hW
          go_wp2
          go_quiet (first | (go_at_call 49; refine Calls.quiet_of_same (lessB_any _ _ _)))
          go_wp2
          go_region
          all_goals go_wp2
          go_roundw
          case rel =>
            refine ⟨2 * root + 1, swp dk (F + root) (F + (2 * root + 1)), by go_num, by omega, by rw [size_swp]; exact hdk, HS, ?_, ?_⟩
            · have hhq := ((hh.drewN 0).swp (i := F + root) (j := F + (2 * root + 1)) (by omega) (by omega))
              simp only [HG.out]
              first | exact hhq | exact hhq.drew | exact hhq.drewN _
            · first | exact hk.swp | exact hk.swp.drew | exact (hk.swp.drewN _)
          case measure => simp [intOf]; omega

end Go.Proofs.Ytcfbnlkkoifiiaa
