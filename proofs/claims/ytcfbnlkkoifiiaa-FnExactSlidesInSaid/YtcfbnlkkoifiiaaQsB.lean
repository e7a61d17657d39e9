/-
  The two partitions of the sort on bytes.
-/
import Derived.Test.YtcfbnlkkoifiiaaQs
import Derived.Test.YtcfbnlkkoifiiaaQp
namespace Go.Proofs.Ytcfbnlkkoifiiaa
open Go.RowKit Go.Sort

set_option maxHeartbeats 6400000 in
theorem partEqB_any (g off cap a b n pv : Nat) (p : Int) (d : Array Int) (w : World) (h : Hb g off d w) (hn : d.size = n) (hab : a < b) (hb : b ≤ n) (hs : n ≤ 40) (hap : a ≤ pv) (hpb : pv < b) (hp : Hid (d[pv]! = p)) :
    Calls Try.prog 50 #[.slice (some ⟨g, off, none⟩) n cap, .int .i64 a, .int .i64 b, .int .i64 pv] w fun e w' => ∃ (mid : Nat) (d' : Array Int), e = .returned (.int .i64 mid) ∧ PartEq a b d p mid d' ∧ Hb g off d' w' ∧ Kg g w w' := by
  rcases Nat.eq_or_lt_of_le hap with rfl | hapv
  · go_enter Try.func50, Try.ntmps50
    obtain ⟨G, HG, hc, hf⟩ := h.fam hn
    have HP0 : Hid (PI (fun x => !ltInt p x) a b d p (swp d a a) (a + 1) (b - 1)) := by rw [Hid, ← hp.out]; exact PI.start (by omega) (by omega) (by omega) (by omega)
    go_wp2
    go_region
    all_goals go_wp2
    clear hc hf
    go_loopw [9, 10] (fun vi vj wr => ∃ (i j : Nat) (dk : Array Int), vi = .int .i64 i ∧ vj = .int .i64 j ∧ Hid (PI (fun x => !ltInt p x) a b d p dk i j) ∧ Hb g off dk wr ∧ Kg g w wr) (fun vi vj _ => (intOf vj).toNat + 1 - (intOf vi).toNat)
    case atStart =>
      refine ⟨a + 1, b - 1, swp d a a, by go_num, by congr 1; omega, HP0, ?_, ?_⟩
      · simp only [HG.out]
        first | exact h.swp (by omega) (by omega) | exact (h.swp (by omega) (by omega)).drew
      · have hk0 : Kg g w w := Kp.refl _ _
        first | exact hk0.swp | exact hk0.swp.drew
    case round =>
      obtain ⟨i, j, dk, rfl, rfl, HP, hh, hk⟩ := hrel
      clear HP0 h HG
      have b1 := HP.out.ia
      have b2 := HP.out.ij
      have b3 := HP.out.jb
      go_wp2
      go_loopw [9] (fun v wr => ∃ i2 : Nat, v = .int .i64 i2 ∧ i ≤ i2 ∧ Hid (PI (fun x => !ltInt p x) a b d p dk i2 j) ∧ Hb g off dk wr ∧ Kg g w wr) (fun v _ => j + 1 - (intOf v).toNat)
      case atStart =>
        exact ⟨i, rfl, Nat.le_refl _, HP, hh, hk⟩
      case round =>
        clear HP hh hk
        obtain ⟨i, rfl, hii, HP, hh, hk⟩ := hrel
        have b1 := HP.out.ia
        have b2 := HP.out.ij
        have b3 := HP.out.jb
        obtain ⟨G, HG, hc, hf⟩ := hh.fam (HP.out.sz.trans hn)
        by_cases hij : i ≤ j
        · cases hl : ltInt (G a) (G i)
          · have HP2 : Hid (PI (fun x => !ltInt p x) a b d p dk (i + 1) j) := HP.out.up hij (by show (!ltInt p dk[i]!) = true; rw [← HP.out.piv, ← HG.out, ← HG.out, hl]; rfl)
            go_wp2
            go_quiet (first | (go_at_call 49; refine Calls.quiet_of_same (lessB_any _ _ _)))
            go_wp2
            go_roundw
            case rel => exact ⟨i + 1, by go_num, by omega, HP2, hh.drewN _, hk.drewN _⟩
            case measure => simp [intOf]; omega
          · have hst : Hid (i ≤ j → (fun x => !ltInt p x) dk[i]! = false) := fun _ => (show (!ltInt p dk[i]!) = false by rw [← HP.out.piv, ← HG.out, ← HG.out, hl]; rfl)
            go_wp2
            go_quiet (first | (go_at_call 49; refine Calls.quiet_of_same (lessB_any _ _ _)))
            generalize hW : wr.drewN nq = wt
            replace hh : Hb g off dk wt := by rw [← hW]; exact hh.drewN _
            replace hk : Kg g w wt := by rw [← hW]; exact hk.drewN _
            clear hW hc hf HG
            try clear hl
            go_wp2
            go_loopw [10] (fun v wr => ∃ j2 : Nat, v = .int .i64 j2 ∧ j2 ≤ j ∧ Hid (PI (fun x => !ltInt p x) a b d p dk i j2) ∧ Hid (i ≤ j2 → (fun x => !ltInt p x) dk[i]! = false) ∧ Hb g off dk wr ∧ Kg g w wr) (fun v _ => (intOf v).toNat)
            case atStart => exact ⟨j, rfl, Nat.le_refl _, HP, hst, hh, hk⟩
            case round =>
              clear HP hst hh hk
              obtain ⟨j, rfl, hjj, HP, hst, hh, hk⟩ := hrel
              have b1 := HP.out.ia
              have b2 := HP.out.ij
              have b3 := HP.out.jb
              obtain ⟨G, HG, hc, hf⟩ := hh.fam (HP.out.sz.trans hn)
              by_cases hij : i ≤ j
              · cases hl : ltInt (G a) (G j)
                · have hsd : Hid (i ≤ j → (fun x => !ltInt p x) dk[j]! = true) := fun _ => (show (!ltInt p dk[j]!) = true by rw [← HP.out.piv, ← HG.out, ← HG.out, hl]; rfl)
                  go_wp2
                  go_quiet (first | (go_at_call 49; refine Calls.quiet_of_same (lessB_any _ _ _)))
                  generalize hW : wr.drewN nq = wt
                  replace hh : Hb g off dk wt := by rw [← hW]; exact hh.drewN _
                  replace hk : Kg g w wt := by rw [← hW]; exact hk.drewN _
                  clear hW hc hf HG
                  try clear hl
                  have hgt : ¬ j < i := by omega
                  have HP3 : Hid (PI (fun x => !ltInt p x) a b d p (swp dk i j) (i + 1) (j - 1)) := HP.out.swap (by omega) (hst.out (by omega)) (hsd.out (by omega))
                  obtain ⟨G, HG, hc, hf⟩ := hh.fam (HP.out.sz.trans hn)
                  have hne : i ≠ j := fun e => by have e1 := hst.out (by omega); have e2 := hsd.out (by omega); rw [e, e2] at e1; cases e1
                  have b6 : i < n := by omega
                  have b7 : j < n := by omega
                  have b4 : i < dk.size := by have := HP.out.sz; omega
                  have b5 : j < dk.size := by have := HP.out.sz; omega
                  go_wp2
                  go_region
                  all_goals go_wp2
                  go_roundw
                  case rel =>
                    refine ⟨i + 1, j - 1, swp dk i j, by go_num, by congr 1; omega, HP3, ?_, ?_⟩
                    · simp only [HG.out]
                      first | exact hh.swp b4 b5 | exact (hh.swp b4 b5).drew
                    · first | exact hk.swp | exact hk.swp.drew
                  case measure => simp [intOf]; omega
                · have HP2 : Hid (PI (fun x => !ltInt p x) a b d p dk i (j - 1)) := HP.out.down hij (by show (!ltInt p dk[j]!) = false; rw [← HP.out.piv, ← HG.out, ← HG.out, hl]; rfl)
                  go_wp2
                  go_quiet (first | (go_at_call 49; refine Calls.quiet_of_same (lessB_any _ _ _)))
                  go_wp2
                  go_roundw
                  case rel => exact ⟨j - 1, by congr 1; omega, by omega, HP2, fun e => hst.out (by omega), hh.drewN _, hk.drewN _⟩
                  case measure => simp [intOf]; omega
              · have hsd : Hid (i ≤ j → (fun x => !ltInt p x) dk[j]! = true) := fun e => absurd e hij
                go_wp2
                go_quiet (first | (go_at_call 49; refine Calls.quiet_of_same (lessB_any _ _ _)))
                generalize hW : wr.drewN nq = wt
                replace hh : Hb g off dk wt := by rw [← hW]; exact hh.drewN _
                replace hk : Kg g w wt := by rw [← hW]; exact hk.drewN _
                clear hW hc hf HG
                try clear hl
                have hgt : j < i := by omega
                go_wp2
                go_ret
                exact ⟨i, dk, rfl, HP.out.finEq hgt, hh, hk⟩
        · have hst : Hid (i ≤ j → (fun x => !ltInt p x) dk[i]! = false) := fun e => absurd e hij
          go_wp2
          go_quiet (first | (go_at_call 49; refine Calls.quiet_of_same (lessB_any _ _ _)))
          generalize hW : wr.drewN nq = wt
          replace hh : Hb g off dk wt := by rw [← hW]; exact hh.drewN _
          replace hk : Kg g w wt := by rw [← hW]; exact hk.drewN _
          clear hW hc hf HG
          try clear hl
          go_wp2
          go_loopw [10] (fun v wr => ∃ j2 : Nat, v = .int .i64 j2 ∧ j2 ≤ j ∧ Hid (PI (fun x => !ltInt p x) a b d p dk i j2) ∧ Hid (i ≤ j2 → (fun x => !ltInt p x) dk[i]! = false) ∧ Hb g off dk wr ∧ Kg g w wr) (fun v _ => (intOf v).toNat)
          case atStart => exact ⟨j, rfl, Nat.le_refl _, HP, hst, hh, hk⟩
          case round =>
            clear HP hst hh hk
            obtain ⟨j, rfl, hjj, HP, hst, hh, hk⟩ := hrel
            have b1 := HP.out.ia
            have b2 := HP.out.ij
            have b3 := HP.out.jb
            obtain ⟨G, HG, hc, hf⟩ := hh.fam (HP.out.sz.trans hn)
            by_cases hij : i ≤ j
            · exfalso; omega
            · have hsd : Hid (i ≤ j → (fun x => !ltInt p x) dk[j]! = true) := fun e => absurd e hij
              go_wp2
              go_quiet (first | (go_at_call 49; refine Calls.quiet_of_same (lessB_any _ _ _)))
              generalize hW : wr.drewN nq = wt
              replace hh : Hb g off dk wt := by rw [← hW]; exact hh.drewN _
              replace hk : Kg g w wt := by rw [← hW]; exact hk.drewN _
              clear hW hc hf HG
              try clear hl
              have hgt : j < i := by omega
              go_wp2
              go_ret
              exact ⟨i, dk, rfl, HP.out.finEq hgt, hh, hk⟩

  · have hapv2 : a ≠ pv := by omega
    go_enter Try.func50, Try.ntmps50
    obtain ⟨G, HG, hc, hf⟩ := h.fam hn
    have HP0 : Hid (PI (fun x => !ltInt p x) a b d p (swp d a pv) (a + 1) (b - 1)) := by rw [Hid, ← hp.out]; exact PI.start (by omega) (by omega) (by omega) (by omega)
    go_wp2
    go_region
    all_goals go_wp2
    clear hc hf
    go_loopw [9, 10] (fun vi vj wr => ∃ (i j : Nat) (dk : Array Int), vi = .int .i64 i ∧ vj = .int .i64 j ∧ Hid (PI (fun x => !ltInt p x) a b d p dk i j) ∧ Hb g off dk wr ∧ Kg g w wr) (fun vi vj _ => (intOf vj).toNat + 1 - (intOf vi).toNat)
    case atStart =>
      refine ⟨a + 1, b - 1, swp d a pv, by go_num, by congr 1; omega, HP0, ?_, ?_⟩
      · simp only [HG.out]
        first | exact h.swp (by omega) (by omega) | exact (h.swp (by omega) (by omega)).drew
      · have hk0 : Kg g w w := Kp.refl _ _
        first | exact hk0.swp | exact hk0.swp.drew
    case round =>
      obtain ⟨i, j, dk, rfl, rfl, HP, hh, hk⟩ := hrel
      clear HP0 h HG
      have b1 := HP.out.ia
      have b2 := HP.out.ij
      have b3 := HP.out.jb
      go_wp2
      go_loopw [9] (fun v wr => ∃ i2 : Nat, v = .int .i64 i2 ∧ i ≤ i2 ∧ Hid (PI (fun x => !ltInt p x) a b d p dk i2 j) ∧ Hb g off dk wr ∧ Kg g w wr) (fun v _ => j + 1 - (intOf v).toNat)
      case atStart =>
        exact ⟨i, rfl, Nat.le_refl _, HP, hh, hk⟩
      case round =>
        clear HP hh hk
        obtain ⟨i, rfl, hii, HP, hh, hk⟩ := hrel
        have b1 := HP.out.ia
        have b2 := HP.out.ij
        have b3 := HP.out.jb
        obtain ⟨G, HG, hc, hf⟩ := hh.fam (HP.out.sz.trans hn)
        by_cases hij : i ≤ j
        · cases hl : ltInt (G a) (G i)
          · have HP2 : Hid (PI (fun x => !ltInt p x) a b d p dk (i + 1) j) := HP.out.up hij (by show (!ltInt p dk[i]!) = true; rw [← HP.out.piv, ← HG.out, ← HG.out, hl]; rfl)
            go_wp2
            go_quiet (first | (go_at_call 49; refine Calls.quiet_of_same (lessB_any _ _ _)))
            go_wp2
            go_roundw
            case rel => exact ⟨i + 1, by go_num, by omega, HP2, hh.drewN _, hk.drewN _⟩
            case measure => simp [intOf]; omega
          · have hst : Hid (i ≤ j → (fun x => !ltInt p x) dk[i]! = false) := fun _ => (show (!ltInt p dk[i]!) = false by rw [← HP.out.piv, ← HG.out, ← HG.out, hl]; rfl)
            go_wp2
            go_quiet (first | (go_at_call 49; refine Calls.quiet_of_same (lessB_any _ _ _)))
            generalize hW : wr.drewN nq = wt
            replace hh : Hb g off dk wt := by rw [← hW]; exact hh.drewN _
            replace hk : Kg g w wt := by rw [← hW]; exact hk.drewN _
            clear hW hc hf HG
            try clear hl
            go_wp2
            go_loopw [10] (fun v wr => ∃ j2 : Nat, v = .int .i64 j2 ∧ j2 ≤ j ∧ Hid (PI (fun x => !ltInt p x) a b d p dk i j2) ∧ Hid (i ≤ j2 → (fun x => !ltInt p x) dk[i]! = false) ∧ Hb g off dk wr ∧ Kg g w wr) (fun v _ => (intOf v).toNat)
            case atStart => exact ⟨j, rfl, Nat.le_refl _, HP, hst, hh, hk⟩
            case round =>
              clear HP hst hh hk
              obtain ⟨j, rfl, hjj, HP, hst, hh, hk⟩ := hrel
              have b1 := HP.out.ia
              have b2 := HP.out.ij
              have b3 := HP.out.jb
              obtain ⟨G, HG, hc, hf⟩ := hh.fam (HP.out.sz.trans hn)
              by_cases hij : i ≤ j
              · cases hl : ltInt (G a) (G j)
                · have hsd : Hid (i ≤ j → (fun x => !ltInt p x) dk[j]! = true) := fun _ => (show (!ltInt p dk[j]!) = true by rw [← HP.out.piv, ← HG.out, ← HG.out, hl]; rfl)
                  go_wp2
                  go_quiet (first | (go_at_call 49; refine Calls.quiet_of_same (lessB_any _ _ _)))
                  generalize hW : wr.drewN nq = wt
                  replace hh : Hb g off dk wt := by rw [← hW]; exact hh.drewN _
                  replace hk : Kg g w wt := by rw [← hW]; exact hk.drewN _
                  clear hW hc hf HG
                  try clear hl
                  have hgt : ¬ j < i := by omega
                  have HP3 : Hid (PI (fun x => !ltInt p x) a b d p (swp dk i j) (i + 1) (j - 1)) := HP.out.swap (by omega) (hst.out (by omega)) (hsd.out (by omega))
                  obtain ⟨G, HG, hc, hf⟩ := hh.fam (HP.out.sz.trans hn)
                  have hne : i ≠ j := fun e => by have e1 := hst.out (by omega); have e2 := hsd.out (by omega); rw [e, e2] at e1; cases e1
                  have b6 : i < n := by omega
                  have b7 : j < n := by omega
                  have b4 : i < dk.size := by have := HP.out.sz; omega
                  have b5 : j < dk.size := by have := HP.out.sz; omega
                  go_wp2
                  go_region
                  all_goals go_wp2
                  go_roundw
                  case rel =>
                    refine ⟨i + 1, j - 1, swp dk i j, by go_num, by congr 1; omega, HP3, ?_, ?_⟩
                    · simp only [HG.out]
                      first | exact hh.swp b4 b5 | exact (hh.swp b4 b5).drew
                    · first | exact hk.swp | exact hk.swp.drew
                  case measure => simp [intOf]; omega
                · have HP2 : Hid (PI (fun x => !ltInt p x) a b d p dk i (j - 1)) := HP.out.down hij (by show (!ltInt p dk[j]!) = false; rw [← HP.out.piv, ← HG.out, ← HG.out, hl]; rfl)
                  go_wp2
                  go_quiet (first | (go_at_call 49; refine Calls.quiet_of_same (lessB_any _ _ _)))
                  go_wp2
                  go_roundw
                  case rel => exact ⟨j - 1, by congr 1; omega, by omega, HP2, fun e => hst.out (by omega), hh.drewN _, hk.drewN _⟩
                  case measure => simp [intOf]; omega
              · have hsd : Hid (i ≤ j → (fun x => !ltInt p x) dk[j]! = true) := fun e => absurd e hij
                go_wp2
                go_quiet (first | (go_at_call 49; refine Calls.quiet_of_same (lessB_any _ _ _)))
                generalize hW : wr.drewN nq = wt
                replace hh : Hb g off dk wt := by rw [← hW]; exact hh.drewN _
                replace hk : Kg g w wt := by rw [← hW]; exact hk.drewN _
                clear hW hc hf HG
                try clear hl
                have hgt : j < i := by omega
                go_wp2
                go_ret
                exact ⟨i, dk, rfl, HP.out.finEq hgt, hh, hk⟩
        · have hst : Hid (i ≤ j → (fun x => !ltInt p x) dk[i]! = false) := fun e => absurd e hij
          go_wp2
          go_quiet (first | (go_at_call 49; refine Calls.quiet_of_same (lessB_any _ _ _)))
          generalize hW : wr.drewN nq = wt
          replace hh : Hb g off dk wt := by rw [← hW]; exact hh.drewN _
          replace hk : Kg g w wt := by rw [← hW]; exact hk.drewN _
          clear hW hc hf HG
          try clear hl
          go_wp2
          go_loopw [10] (fun v wr => ∃ j2 : Nat, v = .int .i64 j2 ∧ j2 ≤ j ∧ Hid (PI (fun x => !ltInt p x) a b d p dk i j2) ∧ Hid (i ≤ j2 → (fun x => !ltInt p x) dk[i]! = false) ∧ Hb g off dk wr ∧ Kg g w wr) (fun v _ => (intOf v).toNat)
          case atStart => exact ⟨j, rfl, Nat.le_refl _, HP, hst, hh, hk⟩
          case round =>
            clear HP hst hh hk
            obtain ⟨j, rfl, hjj, HP, hst, hh, hk⟩ := hrel
            have b1 := HP.out.ia
            have b2 := HP.out.ij
            have b3 := HP.out.jb
            obtain ⟨G, HG, hc, hf⟩ := hh.fam (HP.out.sz.trans hn)
            by_cases hij : i ≤ j
            · exfalso; omega
            · have hsd : Hid (i ≤ j → (fun x => !ltInt p x) dk[j]! = true) := fun e => absurd e hij
              go_wp2
              go_quiet (first | (go_at_call 49; refine Calls.quiet_of_same (lessB_any _ _ _)))
              generalize hW : wr.drewN nq = wt
              replace hh : Hb g off dk wt := by rw [← hW]; exact hh.drewN _
              replace hk : Kg g w wt := by rw [← hW]; exact hk.drewN _
              clear hW hc hf HG
              try clear hl
              have hgt : j < i := by omega
              go_wp2
              go_ret
              exact ⟨i, dk, rfl, HP.out.finEq hgt, hh, hk⟩

set_option maxHeartbeats 12800000 in
set_option maxRecDepth 100000 in
theorem partB_any (g off cap a b n pv : Nat) (p : Int) (d : Array Int) (w : World) (h : Hb g off d w) (hn : d.size = n) (hab : a < b) (hb : b ≤ n) (hs : n ≤ 40) (hap : a ≤ pv) (hpb : pv < b) (hp : Hid (d[pv]! = p)) :
    Calls Try.prog 51 #[.slice (some ⟨g, off, none⟩) n cap, .int .i64 a, .int .i64 b, .int .i64 pv] w fun e w' => ∃ (mid : Nat) (fl : Bool) (d' : Array Int), e = .returned (.tuple #[.int .i64 mid, .bool fl]) ∧ PartRes a b d mid d' ∧ Hb g off d' w' ∧ Kg g w w' := by
  rcases Nat.eq_or_lt_of_le hap with rfl | hapv
  · go_enter Try.func51, Try.ntmps51
    obtain ⟨G, HG, hc, hf⟩ := h.fam hn
    have HP0 : Hid (PI (fun x => ltInt x p) a b d p (swp d a a) (a + 1) (b - 1)) := by rw [Hid, ← hp.out]; exact PI.start (by omega) (by omega) (by omega) (by omega)
    go_wp2
    go_region
    all_goals go_wp2
    clear hc hf
    rw [show (a : Int) + 1 = ((a + 1 : Nat) : Int) from by omega, show (b : Int) - 1 = ((b - 1 : Nat) : Int) from by omega]
    generalize hi0 : a + 1 = i at HP0
    generalize hj0 : b - 1 = j at HP0
    generalize hdk : swp d a a = dk at HP0
    go_loopw [10] (fun v wr => ∃ i2 : Nat, v = .int .i64 i2 ∧ i ≤ i2 ∧ Hid (PI (fun x => ltInt x p) a b d p dk i2 j) ∧ Hb g off dk wr ∧ Kg g w wr) (fun v _ => j + 1 - (intOf v).toNat)
    case atStart =>
      refine ⟨i, rfl, Nat.le_refl _, HP0, ?_, ?_⟩
      · rw [← hdk]
        simp only [HG.out]
        first | exact h.swp (by omega) (by omega) | exact (h.swp (by omega) (by omega)).drew
      · have hk0 : Kg g w w := Kp.refl _ _
        first | exact hk0.swp | exact hk0.swp.drew
    case round =>
      clear HP0 h HG hdk
      obtain ⟨i, rfl, hii, HP, hh, hk⟩ := hrel
      have b1 := HP.out.ia
      have b2 := HP.out.ij
      have b3 := HP.out.jb
      obtain ⟨G, HG, hc, hf⟩ := hh.fam (HP.out.sz.trans hn)
      by_cases hij : i ≤ j
      · cases hl : ltInt (G i) (G a)
        · have hst : Hid (i ≤ j → (fun x => ltInt x p) dk[i]! = false) := fun _ => (show ltInt dk[i]! p = false by rw [← HP.out.piv, ← HG.out, ← HG.out]; exact hl)
          go_wp2
          go_quiet (first | (go_at_call 49; refine Calls.quiet_of_same (lessB_any _ _ _)))
          generalize hW : wr.drewN nq = wt
          replace hh : Hb g off dk wt := by rw [← hW]; exact hh.drewN _
          replace hk : Kg g w wt := by rw [← hW]; exact hk.drewN _
          clear hW hc hf HG
          try clear hl
          go_wp2
          go_loopw [11] (fun v wr => ∃ j2 : Nat, v = .int .i64 j2 ∧ j2 ≤ j ∧ Hid (PI (fun x => ltInt x p) a b d p dk i j2) ∧ Hid (i ≤ j2 → (fun x => ltInt x p) dk[i]! = false) ∧ Hb g off dk wr ∧ Kg g w wr) (fun v _ => (intOf v).toNat)
          case atStart => exact ⟨j, rfl, Nat.le_refl _, HP, hst, hh, hk⟩
          case round =>
            clear HP hst hh hk
            obtain ⟨j, rfl, hjj, HP, hst, hh, hk⟩ := hrel
            have b1 := HP.out.ia
            have b2 := HP.out.ij
            have b3 := HP.out.jb
            obtain ⟨G, HG, hc, hf⟩ := hh.fam (HP.out.sz.trans hn)
            by_cases hij : i ≤ j
            · cases hl : ltInt (G j) (G a)
              · have HP2 : Hid (PI (fun x => ltInt x p) a b d p dk i (j - 1)) := HP.out.down hij (by show ltInt dk[j]! p = false; rw [← HP.out.piv, ← HG.out, ← HG.out]; exact hl)
                go_wp2
                go_quiet (first | (go_at_call 49; refine Calls.quiet_of_same (lessB_any _ _ _)))
                go_wp2
                go_roundw
                case rel => exact ⟨j - 1, by congr 1; omega, by omega, HP2, fun e => hst.out (by omega), hh.drewN _, hk.drewN _⟩
                case measure => simp [intOf]; omega
              · have hsd : Hid (i ≤ j → (fun x => ltInt x p) dk[j]! = true) := fun _ => (show ltInt dk[j]! p = true by rw [← HP.out.piv, ← HG.out, ← HG.out]; exact hl)
                go_wp2
                go_quiet (first | (go_at_call 49; refine Calls.quiet_of_same (lessB_any _ _ _)))
                generalize hW : wr.drewN nq = wt
                replace hh : Hb g off dk wt := by rw [← hW]; exact hh.drewN _
                replace hk : Kg g w wt := by rw [← hW]; exact hk.drewN _
                clear hW hc hf HG
                try clear hl
                have hgt : ¬ j < i := by omega
                have HP3 : Hid (PI (fun x => ltInt x p) a b d p (swp dk i j) (i + 1) (j - 1)) := HP.out.swap (by omega) (hst.out (by omega)) (hsd.out (by omega))
                obtain ⟨G, HG, hc, hf⟩ := hh.fam (HP.out.sz.trans hn)
                have hne : i ≠ j := fun e => by have e1 := hst.out (by omega); have e2 := hsd.out (by omega); rw [e, e2] at e1; cases e1
                have b6 : i < n := by omega
                have b7 : j < n := by omega
                have b4 : i < dk.size := by have := HP.out.sz; omega
                have b5 : j < dk.size := by have := HP.out.sz; omega
                go_wp2
                go_region
                all_goals go_wp2
                clear hc hf
                go_loopw [10, 11] (fun vi vj wr => ∃ (i j : Nat) (dk : Array Int), vi = .int .i64 i ∧ vj = .int .i64 j ∧ Hid (PI (fun x => ltInt x p) a b d p dk i j) ∧ Hb g off dk wr ∧ Kg g w wr) (fun vi vj _ => (intOf vj).toNat + 1 - (intOf vi).toNat)
                case atStart =>
                  refine ⟨i + 1, j - 1, swp dk i j, by go_num, by congr 1; omega, HP3, ?_, ?_⟩
                  · simp only [HG.out]
                    first | exact hh.swp b4 b5 | exact (hh.swp b4 b5).drew
                  · first | exact hk.swp | exact hk.swp.drew
                case round =>
                  clear HP HP3 hh hk HG hst hsd b4 b5 b6 b7 hne
                  obtain ⟨i, j, dk, rfl, rfl, HP, hh, hk⟩ := hrel
                  have b1 := HP.out.ia
                  have b2 := HP.out.ij
                  have b3 := HP.out.jb
                  go_wp2
                  go_loopw [10] (fun v wr => ∃ i2 : Nat, v = .int .i64 i2 ∧ i ≤ i2 ∧ Hid (PI (fun x => ltInt x p) a b d p dk i2 j) ∧ Hb g off dk wr ∧ Kg g w wr) (fun v _ => j + 1 - (intOf v).toNat)
                  case atStart =>
                    exact ⟨i, rfl, Nat.le_refl _, HP, hh, hk⟩
                  case round =>
                    clear HP hh hk
                    obtain ⟨i, rfl, hii, HP, hh, hk⟩ := hrel
                    have b1 := HP.out.ia
                    have b2 := HP.out.ij
                    have b3 := HP.out.jb
                    obtain ⟨G, HG, hc, hf⟩ := hh.fam (HP.out.sz.trans hn)
                    by_cases hij : i ≤ j
                    · cases hl : ltInt (G i) (G a)
                      · have hst : Hid (i ≤ j → (fun x => ltInt x p) dk[i]! = false) := fun _ => (show ltInt dk[i]! p = false by rw [← HP.out.piv, ← HG.out, ← HG.out]; exact hl)
                        go_wp2
                        go_quiet (first | (go_at_call 49; refine Calls.quiet_of_same (lessB_any _ _ _)))
                        generalize hW : wr.drewN nq = wt
                        replace hh : Hb g off dk wt := by rw [← hW]; exact hh.drewN _
                        replace hk : Kg g w wt := by rw [← hW]; exact hk.drewN _
                        clear hW hc hf HG
                        try clear hl
                        go_wp2
                        go_loopw [11] (fun v wr => ∃ j2 : Nat, v = .int .i64 j2 ∧ j2 ≤ j ∧ Hid (PI (fun x => ltInt x p) a b d p dk i j2) ∧ Hid (i ≤ j2 → (fun x => ltInt x p) dk[i]! = false) ∧ Hb g off dk wr ∧ Kg g w wr) (fun v _ => (intOf v).toNat)
                        case atStart => exact ⟨j, rfl, Nat.le_refl _, HP, hst, hh, hk⟩
                        case round =>
                          clear HP hst hh hk
                          obtain ⟨j, rfl, hjj, HP, hst, hh, hk⟩ := hrel
                          have b1 := HP.out.ia
                          have b2 := HP.out.ij
                          have b3 := HP.out.jb
                          obtain ⟨G, HG, hc, hf⟩ := hh.fam (HP.out.sz.trans hn)
                          by_cases hij : i ≤ j
                          · cases hl : ltInt (G j) (G a)
                            · have HP2 : Hid (PI (fun x => ltInt x p) a b d p dk i (j - 1)) := HP.out.down hij (by show ltInt dk[j]! p = false; rw [← HP.out.piv, ← HG.out, ← HG.out]; exact hl)
                              go_wp2
                              go_quiet (first | (go_at_call 49; refine Calls.quiet_of_same (lessB_any _ _ _)))
                              go_wp2
                              go_roundw
                              case rel => exact ⟨j - 1, by congr 1; omega, by omega, HP2, fun e => hst.out (by omega), hh.drewN _, hk.drewN _⟩
                              case measure => simp [intOf]; omega
                            · have hsd : Hid (i ≤ j → (fun x => ltInt x p) dk[j]! = true) := fun _ => (show ltInt dk[j]! p = true by rw [← HP.out.piv, ← HG.out, ← HG.out]; exact hl)
                              go_wp2
                              go_quiet (first | (go_at_call 49; refine Calls.quiet_of_same (lessB_any _ _ _)))
                              generalize hW : wr.drewN nq = wt
                              replace hh : Hb g off dk wt := by rw [← hW]; exact hh.drewN _
                              replace hk : Kg g w wt := by rw [← hW]; exact hk.drewN _
                              clear hW hc hf HG
                              try clear hl
                              have hgt : ¬ j < i := by omega
                              have HP3 : Hid (PI (fun x => ltInt x p) a b d p (swp dk i j) (i + 1) (j - 1)) := HP.out.swap (by omega) (hst.out (by omega)) (hsd.out (by omega))
                              obtain ⟨G, HG, hc, hf⟩ := hh.fam (HP.out.sz.trans hn)
                              have hne : i ≠ j := fun e => by have e1 := hst.out (by omega); have e2 := hsd.out (by omega); rw [e, e2] at e1; cases e1
                              have b6 : i < n := by omega
                              have b7 : j < n := by omega
                              have b4 : i < dk.size := by have := HP.out.sz; omega
                              have b5 : j < dk.size := by have := HP.out.sz; omega
                              go_wp2
                              go_region
                              all_goals go_wp2
                              go_roundw
                              case rel =>
                                refine ⟨i + 1, j - 1, swp dk i j, by go_num, by congr 1; omega, HP3, ?_, ?_⟩
                                · simp only [HG.out]
                                  first | exact hh.swp b4 b5 | exact (hh.swp b4 b5).drew
                                · first | exact hk.swp | exact hk.swp.drew
                              case measure => simp [intOf]; omega
                          · have hsd : Hid (i ≤ j → (fun x => ltInt x p) dk[j]! = true) := fun e => absurd e hij
                            go_wp2
                            go_quiet (first | (go_at_call 49; refine Calls.quiet_of_same (lessB_any _ _ _)))
                            generalize hW : wr.drewN nq = wt
                            replace hh : Hb g off dk wt := by rw [← hW]; exact hh.drewN _
                            replace hk : Kg g w wt := by rw [← hW]; exact hk.drewN _
                            clear hW hc hf HG
                            try clear hl
                            have hgt : j < i := by omega
                            have HF : PartRes a b d j (swp dk j a) := HP.out.fin hgt
                            obtain ⟨G, HG, hc, hf⟩ := hh.fam (HP.out.sz.trans hn)
                            have b4 : j < dk.size := by have := HP.out.sz; omega
                            have b5 : a < dk.size := by have := HP.out.sz; omega
                            have b6 : j < n := by omega
                            have b7 : a < n := by omega
                            rcases Nat.eq_or_lt_of_le (show a ≤ j by omega) with hea | hea
                            · subst hea
                              go_wp2
                              go_region
                              all_goals go_wp2
                              all_goals go_ret2
                              all_goals refine ⟨_, _, _, rfl, HF, ?_, ?_⟩
                              all_goals first | exact hk.swp | exact hk.swp.drew | (simp only [HG.out]; first | exact hh.swp b4 b5 | exact (hh.swp b4 b5).drew)
                            · have hea2 : j ≠ a := by omega
                              go_wp2
                              go_region
                              all_goals go_wp2
                              all_goals go_ret2
                              all_goals refine ⟨_, _, _, rfl, HF, ?_, ?_⟩
                              all_goals first | exact hk.swp | exact hk.swp.drew | (simp only [HG.out]; first | exact hh.swp b4 b5 | exact (hh.swp b4 b5).drew)
                      · have HP2 : Hid (PI (fun x => ltInt x p) a b d p dk (i + 1) j) := HP.out.up hij (by show ltInt dk[i]! p = true; rw [← HP.out.piv, ← HG.out, ← HG.out]; exact hl)
                        go_wp2
                        go_quiet (first | (go_at_call 49; refine Calls.quiet_of_same (lessB_any _ _ _)))
                        go_wp2
                        go_roundw
                        case rel => exact ⟨i + 1, by go_num, by omega, HP2, hh.drewN _, hk.drewN _⟩
                        case measure => simp [intOf]; omega
                    · have hst : Hid (i ≤ j → (fun x => ltInt x p) dk[i]! = false) := fun e => absurd e hij
                      go_wp2
                      go_quiet (first | (go_at_call 49; refine Calls.quiet_of_same (lessB_any _ _ _)))
                      generalize hW : wr.drewN nq = wt
                      replace hh : Hb g off dk wt := by rw [← hW]; exact hh.drewN _
                      replace hk : Kg g w wt := by rw [← hW]; exact hk.drewN _
                      clear hW hc hf HG
                      try clear hl
                      go_wp2
                      go_loopw [11] (fun v wr => ∃ j2 : Nat, v = .int .i64 j2 ∧ j2 ≤ j ∧ Hid (PI (fun x => ltInt x p) a b d p dk i j2) ∧ Hid (i ≤ j2 → (fun x => ltInt x p) dk[i]! = false) ∧ Hb g off dk wr ∧ Kg g w wr) (fun v _ => (intOf v).toNat)
                      case atStart => exact ⟨j, rfl, Nat.le_refl _, HP, hst, hh, hk⟩
                      case round =>
                        clear HP hst hh hk
                        obtain ⟨j, rfl, hjj, HP, hst, hh, hk⟩ := hrel
                        have b1 := HP.out.ia
                        have b2 := HP.out.ij
                        have b3 := HP.out.jb
                        obtain ⟨G, HG, hc, hf⟩ := hh.fam (HP.out.sz.trans hn)
                        by_cases hij : i ≤ j
                        · exfalso; omega
                        · have hsd : Hid (i ≤ j → (fun x => ltInt x p) dk[j]! = true) := fun e => absurd e hij
                          go_wp2
                          go_quiet (first | (go_at_call 49; refine Calls.quiet_of_same (lessB_any _ _ _)))
                          generalize hW : wr.drewN nq = wt
                          replace hh : Hb g off dk wt := by rw [← hW]; exact hh.drewN _
                          replace hk : Kg g w wt := by rw [← hW]; exact hk.drewN _
                          clear hW hc hf HG
                          try clear hl
                          have hgt : j < i := by omega
                          have HF : PartRes a b d j (swp dk j a) := HP.out.fin hgt
                          obtain ⟨G, HG, hc, hf⟩ := hh.fam (HP.out.sz.trans hn)
                          have b4 : j < dk.size := by have := HP.out.sz; omega
                          have b5 : a < dk.size := by have := HP.out.sz; omega
                          have b6 : j < n := by omega
                          have b7 : a < n := by omega
                          rcases Nat.eq_or_lt_of_le (show a ≤ j by omega) with hea | hea
                          · subst hea
                            go_wp2
                            go_region
                            all_goals go_wp2
                            all_goals go_ret2
                            all_goals refine ⟨_, _, _, rfl, HF, ?_, ?_⟩
                            all_goals first | exact hk.swp | exact hk.swp.drew | (simp only [HG.out]; first | exact hh.swp b4 b5 | exact (hh.swp b4 b5).drew)
                          · have hea2 : j ≠ a := by omega
                            go_wp2
                            go_region
                            all_goals go_wp2
                            all_goals go_ret2
                            all_goals refine ⟨_, _, _, rfl, HF, ?_, ?_⟩
                            all_goals first | exact hk.swp | exact hk.swp.drew | (simp only [HG.out]; first | exact hh.swp b4 b5 | exact (hh.swp b4 b5).drew)
            · have hsd : Hid (i ≤ j → (fun x => ltInt x p) dk[j]! = true) := fun e => absurd e hij
              go_wp2
              go_quiet (first | (go_at_call 49; refine Calls.quiet_of_same (lessB_any _ _ _)))
              generalize hW : wr.drewN nq = wt
              replace hh : Hb g off dk wt := by rw [← hW]; exact hh.drewN _
              replace hk : Kg g w wt := by rw [← hW]; exact hk.drewN _
              clear hW hc hf HG
              try clear hl
              have hgt : j < i := by omega
              have HF : PartRes a b d j (swp dk j a) := HP.out.fin hgt
              obtain ⟨G, HG, hc, hf⟩ := hh.fam (HP.out.sz.trans hn)
              have b4 : j < dk.size := by have := HP.out.sz; omega
              have b5 : a < dk.size := by have := HP.out.sz; omega
              have b6 : j < n := by omega
              have b7 : a < n := by omega
              rcases Nat.eq_or_lt_of_le (show a ≤ j by omega) with hea | hea
              · subst hea
                go_wp2
                go_region
                all_goals go_wp2
                all_goals go_ret2
                all_goals refine ⟨_, _, _, rfl, HF, ?_, ?_⟩
                all_goals first | exact hk.swp | exact hk.swp.drew | (simp only [HG.out]; first | exact hh.swp b4 b5 | exact (hh.swp b4 b5).drew)
              · have hea2 : j ≠ a := by omega
                go_wp2
                go_region
                all_goals go_wp2
                all_goals go_ret2
                all_goals refine ⟨_, _, _, rfl, HF, ?_, ?_⟩
                all_goals first | exact hk.swp | exact hk.swp.drew | (simp only [HG.out]; first | exact hh.swp b4 b5 | exact (hh.swp b4 b5).drew)
        · have HP2 : Hid (PI (fun x => ltInt x p) a b d p dk (i + 1) j) := HP.out.up hij (by show ltInt dk[i]! p = true; rw [← HP.out.piv, ← HG.out, ← HG.out]; exact hl)
          go_wp2
          go_quiet (first | (go_at_call 49; refine Calls.quiet_of_same (lessB_any _ _ _)))
          go_wp2
          go_roundw
          case rel => exact ⟨i + 1, by go_num, by omega, HP2, hh.drewN _, hk.drewN _⟩
          case measure => simp [intOf]; omega
      · have hst : Hid (i ≤ j → (fun x => ltInt x p) dk[i]! = false) := fun e => absurd e hij
        go_wp2
        go_quiet (first | (go_at_call 49; refine Calls.quiet_of_same (lessB_any _ _ _)))
        generalize hW : wr.drewN nq = wt
        replace hh : Hb g off dk wt := by rw [← hW]; exact hh.drewN _
        replace hk : Kg g w wt := by rw [← hW]; exact hk.drewN _
        clear hW hc hf HG
        try clear hl
        go_wp2
        go_loopw [11] (fun v wr => ∃ j2 : Nat, v = .int .i64 j2 ∧ j2 ≤ j ∧ Hid (PI (fun x => ltInt x p) a b d p dk i j2) ∧ Hid (i ≤ j2 → (fun x => ltInt x p) dk[i]! = false) ∧ Hb g off dk wr ∧ Kg g w wr) (fun v _ => (intOf v).toNat)
        case atStart => exact ⟨j, rfl, Nat.le_refl _, HP, hst, hh, hk⟩
        case round =>
          clear HP hst hh hk
          obtain ⟨j, rfl, hjj, HP, hst, hh, hk⟩ := hrel
          have b1 := HP.out.ia
          have b2 := HP.out.ij
          have b3 := HP.out.jb
          obtain ⟨G, HG, hc, hf⟩ := hh.fam (HP.out.sz.trans hn)
          by_cases hij : i ≤ j
          · exfalso; omega
          · have hsd : Hid (i ≤ j → (fun x => ltInt x p) dk[j]! = true) := fun e => absurd e hij
            go_wp2
            go_quiet (first | (go_at_call 49; refine Calls.quiet_of_same (lessB_any _ _ _)))
            generalize hW : wr.drewN nq = wt
            replace hh : Hb g off dk wt := by rw [← hW]; exact hh.drewN _
            replace hk : Kg g w wt := by rw [← hW]; exact hk.drewN _
            clear hW hc hf HG
            try clear hl
            have hgt : j < i := by omega
            have HF : PartRes a b d j (swp dk j a) := HP.out.fin hgt
            obtain ⟨G, HG, hc, hf⟩ := hh.fam (HP.out.sz.trans hn)
            have b4 : j < dk.size := by have := HP.out.sz; omega
            have b5 : a < dk.size := by have := HP.out.sz; omega
            have b6 : j < n := by omega
            have b7 : a < n := by omega
            rcases Nat.eq_or_lt_of_le (show a ≤ j by omega) with hea | hea
            · subst hea
              go_wp2
              go_region
              all_goals go_wp2
              all_goals go_ret2
              all_goals refine ⟨_, _, _, rfl, HF, ?_, ?_⟩
              all_goals first | exact hk.swp | exact hk.swp.drew | (simp only [HG.out]; first | exact hh.swp b4 b5 | exact (hh.swp b4 b5).drew)
            · have hea2 : j ≠ a := by omega
              go_wp2
              go_region
              all_goals go_wp2
              all_goals go_ret2
              all_goals refine ⟨_, _, _, rfl, HF, ?_, ?_⟩
              all_goals first | exact hk.swp | exact hk.swp.drew | (simp only [HG.out]; first | exact hh.swp b4 b5 | exact (hh.swp b4 b5).drew)

  · have hapv2 : a ≠ pv := by omega
    go_enter Try.func51, Try.ntmps51
    obtain ⟨G, HG, hc, hf⟩ := h.fam hn
    have HP0 : Hid (PI (fun x => ltInt x p) a b d p (swp d a pv) (a + 1) (b - 1)) := by rw [Hid, ← hp.out]; exact PI.start (by omega) (by omega) (by omega) (by omega)
    go_wp2
    go_region
    all_goals go_wp2
    clear hc hf
    rw [show (a : Int) + 1 = ((a + 1 : Nat) : Int) from by omega, show (b : Int) - 1 = ((b - 1 : Nat) : Int) from by omega]
    generalize hi0 : a + 1 = i at HP0
    generalize hj0 : b - 1 = j at HP0
    generalize hdk : swp d a pv = dk at HP0
    go_loopw [10] (fun v wr => ∃ i2 : Nat, v = .int .i64 i2 ∧ i ≤ i2 ∧ Hid (PI (fun x => ltInt x p) a b d p dk i2 j) ∧ Hb g off dk wr ∧ Kg g w wr) (fun v _ => j + 1 - (intOf v).toNat)
    case atStart =>
      refine ⟨i, rfl, Nat.le_refl _, HP0, ?_, ?_⟩
      · rw [← hdk]
        simp only [HG.out]
        first | exact h.swp (by omega) (by omega) | exact (h.swp (by omega) (by omega)).drew
      · have hk0 : Kg g w w := Kp.refl _ _
        first | exact hk0.swp | exact hk0.swp.drew
    case round =>
      clear HP0 h HG hdk
      obtain ⟨i, rfl, hii, HP, hh, hk⟩ := hrel
      have b1 := HP.out.ia
      have b2 := HP.out.ij
      have b3 := HP.out.jb
      obtain ⟨G, HG, hc, hf⟩ := hh.fam (HP.out.sz.trans hn)
      by_cases hij : i ≤ j
      · cases hl : ltInt (G i) (G a)
        · have hst : Hid (i ≤ j → (fun x => ltInt x p) dk[i]! = false) := fun _ => (show ltInt dk[i]! p = false by rw [← HP.out.piv, ← HG.out, ← HG.out]; exact hl)
          go_wp2
          go_quiet (first | (go_at_call 49; refine Calls.quiet_of_same (lessB_any _ _ _)))
          generalize hW : wr.drewN nq = wt
          replace hh : Hb g off dk wt := by rw [← hW]; exact hh.drewN _
          replace hk : Kg g w wt := by rw [← hW]; exact hk.drewN _
          clear hW hc hf HG
          try clear hl
          go_wp2
          go_loopw [11] (fun v wr => ∃ j2 : Nat, v = .int .i64 j2 ∧ j2 ≤ j ∧ Hid (PI (fun x => ltInt x p) a b d p dk i j2) ∧ Hid (i ≤ j2 → (fun x => ltInt x p) dk[i]! = false) ∧ Hb g off dk wr ∧ Kg g w wr) (fun v _ => (intOf v).toNat)
          case atStart => exact ⟨j, rfl, Nat.le_refl _, HP, hst, hh, hk⟩
          case round =>
            clear HP hst hh hk
            obtain ⟨j, rfl, hjj, HP, hst, hh, hk⟩ := hrel
            have b1 := HP.out.ia
            have b2 := HP.out.ij
            have b3 := HP.out.jb
            obtain ⟨G, HG, hc, hf⟩ := hh.fam (HP.out.sz.trans hn)
            by_cases hij : i ≤ j
            · cases hl : ltInt (G j) (G a)
              · have HP2 : Hid (PI (fun x => ltInt x p) a b d p dk i (j - 1)) := HP.out.down hij (by show ltInt dk[j]! p = false; rw [← HP.out.piv, ← HG.out, ← HG.out]; exact hl)
                go_wp2
                go_quiet (first | (go_at_call 49; refine Calls.quiet_of_same (lessB_any _ _ _)))
                go_wp2
                go_roundw
                case rel => exact ⟨j - 1, by congr 1; omega, by omega, HP2, fun e => hst.out (by omega), hh.drewN _, hk.drewN _⟩
                case measure => simp [intOf]; omega
              · have hsd : Hid (i ≤ j → (fun x => ltInt x p) dk[j]! = true) := fun _ => (show ltInt dk[j]! p = true by rw [← HP.out.piv, ← HG.out, ← HG.out]; exact hl)
                go_wp2
                go_quiet (first | (go_at_call 49; refine Calls.quiet_of_same (lessB_any _ _ _)))
                generalize hW : wr.drewN nq = wt
                replace hh : Hb g off dk wt := by rw [← hW]; exact hh.drewN _
                replace hk : Kg g w wt := by rw [← hW]; exact hk.drewN _
                clear hW hc hf HG
                try clear hl
                have hgt : ¬ j < i := by omega
                have HP3 : Hid (PI (fun x => ltInt x p) a b d p (swp dk i j) (i + 1) (j - 1)) := HP.out.swap (by omega) (hst.out (by omega)) (hsd.out (by omega))
                obtain ⟨G, HG, hc, hf⟩ := hh.fam (HP.out.sz.trans hn)
                have hne : i ≠ j := fun e => by have e1 := hst.out (by omega); have e2 := hsd.out (by omega); rw [e, e2] at e1; cases e1
                have b6 : i < n := by omega
                have b7 : j < n := by omega
                have b4 : i < dk.size := by have := HP.out.sz; omega
                have b5 : j < dk.size := by have := HP.out.sz; omega
                go_wp2
                go_region
                all_goals go_wp2
                clear hc hf
                go_loopw [10, 11] (fun vi vj wr => ∃ (i j : Nat) (dk : Array Int), vi = .int .i64 i ∧ vj = .int .i64 j ∧ Hid (PI (fun x => ltInt x p) a b d p dk i j) ∧ Hb g off dk wr ∧ Kg g w wr) (fun vi vj _ => (intOf vj).toNat + 1 - (intOf vi).toNat)
                case atStart =>
                  refine ⟨i + 1, j - 1, swp dk i j, by go_num, by congr 1; omega, HP3, ?_, ?_⟩
                  · simp only [HG.out]
                    first | exact hh.swp b4 b5 | exact (hh.swp b4 b5).drew
                  · first | exact hk.swp | exact hk.swp.drew
                case round =>
                  clear HP HP3 hh hk HG hst hsd b4 b5 b6 b7 hne
                  obtain ⟨i, j, dk, rfl, rfl, HP, hh, hk⟩ := hrel
                  have b1 := HP.out.ia
                  have b2 := HP.out.ij
                  have b3 := HP.out.jb
                  go_wp2
                  go_loopw [10] (fun v wr => ∃ i2 : Nat, v = .int .i64 i2 ∧ i ≤ i2 ∧ Hid (PI (fun x => ltInt x p) a b d p dk i2 j) ∧ Hb g off dk wr ∧ Kg g w wr) (fun v _ => j + 1 - (intOf v).toNat)
                  case atStart =>
                    exact ⟨i, rfl, Nat.le_refl _, HP, hh, hk⟩
                  case round =>
                    clear HP hh hk
                    obtain ⟨i, rfl, hii, HP, hh, hk⟩ := hrel
                    have b1 := HP.out.ia
                    have b2 := HP.out.ij
                    have b3 := HP.out.jb
                    obtain ⟨G, HG, hc, hf⟩ := hh.fam (HP.out.sz.trans hn)
                    by_cases hij : i ≤ j
                    · cases hl : ltInt (G i) (G a)
                      · have hst : Hid (i ≤ j → (fun x => ltInt x p) dk[i]! = false) := fun _ => (show ltInt dk[i]! p = false by rw [← HP.out.piv, ← HG.out, ← HG.out]; exact hl)
                        go_wp2
                        go_quiet (first | (go_at_call 49; refine Calls.quiet_of_same (lessB_any _ _ _)))
                        generalize hW : wr.drewN nq = wt
                        replace hh : Hb g off dk wt := by rw [← hW]; exact hh.drewN _
                        replace hk : Kg g w wt := by rw [← hW]; exact hk.drewN _
                        clear hW hc hf HG
                        try clear hl
                        go_wp2
                        go_loopw [11] (fun v wr => ∃ j2 : Nat, v = .int .i64 j2 ∧ j2 ≤ j ∧ Hid (PI (fun x => ltInt x p) a b d p dk i j2) ∧ Hid (i ≤ j2 → (fun x => ltInt x p) dk[i]! = false) ∧ Hb g off dk wr ∧ Kg g w wr) (fun v _ => (intOf v).toNat)
                        case atStart => exact ⟨j, rfl, Nat.le_refl _, HP, hst, hh, hk⟩
                        case round =>
                          clear HP hst hh hk
                          obtain ⟨j, rfl, hjj, HP, hst, hh, hk⟩ := hrel
                          have b1 := HP.out.ia
                          have b2 := HP.out.ij
                          have b3 := HP.out.jb
                          obtain ⟨G, HG, hc, hf⟩ := hh.fam (HP.out.sz.trans hn)
                          by_cases hij : i ≤ j
                          · cases hl : ltInt (G j) (G a)
                            · have HP2 : Hid (PI (fun x => ltInt x p) a b d p dk i (j - 1)) := HP.out.down hij (by show ltInt dk[j]! p = false; rw [← HP.out.piv, ← HG.out, ← HG.out]; exact hl)
                              go_wp2
                              go_quiet (first | (go_at_call 49; refine Calls.quiet_of_same (lessB_any _ _ _)))
                              go_wp2
                              go_roundw
                              case rel => exact ⟨j - 1, by congr 1; omega, by omega, HP2, fun e => hst.out (by omega), hh.drewN _, hk.drewN _⟩
                              case measure => simp [intOf]; omega
                            · have hsd : Hid (i ≤ j → (fun x => ltInt x p) dk[j]! = true) := fun _ => (show ltInt dk[j]! p = true by rw [← HP.out.piv, ← HG.out, ← HG.out]; exact hl)
                              go_wp2
                              go_quiet (first | (go_at_call 49; refine Calls.quiet_of_same (lessB_any _ _ _)))
                              generalize hW : wr.drewN nq = wt
                              replace hh : Hb g off dk wt := by rw [← hW]; exact hh.drewN _
                              replace hk : Kg g w wt := by rw [← hW]; exact hk.drewN _
                              clear hW hc hf HG
                              try clear hl
                              have hgt : ¬ j < i := by omega
                              have HP3 : Hid (PI (fun x => ltInt x p) a b d p (swp dk i j) (i + 1) (j - 1)) := HP.out.swap (by omega) (hst.out (by omega)) (hsd.out (by omega))
                              obtain ⟨G, HG, hc, hf⟩ := hh.fam (HP.out.sz.trans hn)
                              have hne : i ≠ j := fun e => by have e1 := hst.out (by omega); have e2 := hsd.out (by omega); rw [e, e2] at e1; cases e1
                              have b6 : i < n := by omega
                              have b7 : j < n := by omega
                              have b4 : i < dk.size := by have := HP.out.sz; omega
                              have b5 : j < dk.size := by have := HP.out.sz; omega
                              go_wp2
                              go_region
                              all_goals go_wp2
                              go_roundw
                              case rel =>
                                refine ⟨i + 1, j - 1, swp dk i j, by go_num, by congr 1; omega, HP3, ?_, ?_⟩
                                · simp only [HG.out]
                                  first | exact hh.swp b4 b5 | exact (hh.swp b4 b5).drew
                                · first | exact hk.swp | exact hk.swp.drew
                              case measure => simp [intOf]; omega
                          · have hsd : Hid (i ≤ j → (fun x => ltInt x p) dk[j]! = true) := fun e => absurd e hij
                            go_wp2
                            go_quiet (first | (go_at_call 49; refine Calls.quiet_of_same (lessB_any _ _ _)))
                            generalize hW : wr.drewN nq = wt
                            replace hh : Hb g off dk wt := by rw [← hW]; exact hh.drewN _
                            replace hk : Kg g w wt := by rw [← hW]; exact hk.drewN _
                            clear hW hc hf HG
                            try clear hl
                            have hgt : j < i := by omega
                            have HF : PartRes a b d j (swp dk j a) := HP.out.fin hgt
                            obtain ⟨G, HG, hc, hf⟩ := hh.fam (HP.out.sz.trans hn)
                            have b4 : j < dk.size := by have := HP.out.sz; omega
                            have b5 : a < dk.size := by have := HP.out.sz; omega
                            have b6 : j < n := by omega
                            have b7 : a < n := by omega
                            rcases Nat.eq_or_lt_of_le (show a ≤ j by omega) with hea | hea
                            · subst hea
                              go_wp2
                              go_region
                              all_goals go_wp2
                              all_goals go_ret2
                              all_goals refine ⟨_, _, _, rfl, HF, ?_, ?_⟩
                              all_goals first | exact hk.swp | exact hk.swp.drew | (simp only [HG.out]; first | exact hh.swp b4 b5 | exact (hh.swp b4 b5).drew)
                            · have hea2 : j ≠ a := by omega
                              go_wp2
                              go_region
                              all_goals go_wp2
                              all_goals go_ret2
                              all_goals refine ⟨_, _, _, rfl, HF, ?_, ?_⟩
                              all_goals first | exact hk.swp | exact hk.swp.drew | (simp only [HG.out]; first | exact hh.swp b4 b5 | exact (hh.swp b4 b5).drew)
                      · have HP2 : Hid (PI (fun x => ltInt x p) a b d p dk (i + 1) j) := HP.out.up hij (by show ltInt dk[i]! p = true; rw [← HP.out.piv, ← HG.out, ← HG.out]; exact hl)
                        go_wp2
                        go_quiet (first | (go_at_call 49; refine Calls.quiet_of_same (lessB_any _ _ _)))
                        go_wp2
                        go_roundw
                        case rel => exact ⟨i + 1, by go_num, by omega, HP2, hh.drewN _, hk.drewN _⟩
                        case measure => simp [intOf]; omega
                    · have hst : Hid (i ≤ j → (fun x => ltInt x p) dk[i]! = false) := fun e => absurd e hij
                      go_wp2
                      go_quiet (first | (go_at_call 49; refine Calls.quiet_of_same (lessB_any _ _ _)))
                      generalize hW : wr.drewN nq = wt
                      replace hh : Hb g off dk wt := by rw [← hW]; exact hh.drewN _
                      replace hk : Kg g w wt := by rw [← hW]; exact hk.drewN _
                      clear hW hc hf HG
                      try clear hl
                      go_wp2
                      go_loopw [11] (fun v wr => ∃ j2 : Nat, v = .int .i64 j2 ∧ j2 ≤ j ∧ Hid (PI (fun x => ltInt x p) a b d p dk i j2) ∧ Hid (i ≤ j2 → (fun x => ltInt x p) dk[i]! = false) ∧ Hb g off dk wr ∧ Kg g w wr) (fun v _ => (intOf v).toNat)
                      case atStart => exact ⟨j, rfl, Nat.le_refl _, HP, hst, hh, hk⟩
                      case round =>
                        clear HP hst hh hk
                        obtain ⟨j, rfl, hjj, HP, hst, hh, hk⟩ := hrel
                        have b1 := HP.out.ia
                        have b2 := HP.out.ij
                        have b3 := HP.out.jb
                        obtain ⟨G, HG, hc, hf⟩ := hh.fam (HP.out.sz.trans hn)
                        by_cases hij : i ≤ j
                        · exfalso; omega
                        · have hsd : Hid (i ≤ j → (fun x => ltInt x p) dk[j]! = true) := fun e => absurd e hij
                          go_wp2
                          go_quiet (first | (go_at_call 49; refine Calls.quiet_of_same (lessB_any _ _ _)))
                          generalize hW : wr.drewN nq = wt
                          replace hh : Hb g off dk wt := by rw [← hW]; exact hh.drewN _
                          replace hk : Kg g w wt := by rw [← hW]; exact hk.drewN _
                          clear hW hc hf HG
                          try clear hl
                          have hgt : j < i := by omega
                          have HF : PartRes a b d j (swp dk j a) := HP.out.fin hgt
                          obtain ⟨G, HG, hc, hf⟩ := hh.fam (HP.out.sz.trans hn)
                          have b4 : j < dk.size := by have := HP.out.sz; omega
                          have b5 : a < dk.size := by have := HP.out.sz; omega
                          have b6 : j < n := by omega
                          have b7 : a < n := by omega
                          rcases Nat.eq_or_lt_of_le (show a ≤ j by omega) with hea | hea
                          · subst hea
                            go_wp2
                            go_region
                            all_goals go_wp2
                            all_goals go_ret2
                            all_goals refine ⟨_, _, _, rfl, HF, ?_, ?_⟩
                            all_goals first | exact hk.swp | exact hk.swp.drew | (simp only [HG.out]; first | exact hh.swp b4 b5 | exact (hh.swp b4 b5).drew)
                          · have hea2 : j ≠ a := by omega
                            go_wp2
                            go_region
                            all_goals go_wp2
                            all_goals go_ret2
                            all_goals refine ⟨_, _, _, rfl, HF, ?_, ?_⟩
                            all_goals first | exact hk.swp | exact hk.swp.drew | (simp only [HG.out]; first | exact hh.swp b4 b5 | exact (hh.swp b4 b5).drew)
            · have hsd : Hid (i ≤ j → (fun x => ltInt x p) dk[j]! = true) := fun e => absurd e hij
              go_wp2
              go_quiet (first | (go_at_call 49; refine Calls.quiet_of_same (lessB_any _ _ _)))
              generalize hW : wr.drewN nq = wt
              replace hh : Hb g off dk wt := by rw [← hW]; exact hh.drewN _
              replace hk : Kg g w wt := by rw [← hW]; exact hk.drewN _
              clear hW hc hf HG
              try clear hl
              have hgt : j < i := by omega
              have HF : PartRes a b d j (swp dk j a) := HP.out.fin hgt
              obtain ⟨G, HG, hc, hf⟩ := hh.fam (HP.out.sz.trans hn)
              have b4 : j < dk.size := by have := HP.out.sz; omega
              have b5 : a < dk.size := by have := HP.out.sz; omega
              have b6 : j < n := by omega
              have b7 : a < n := by omega
              rcases Nat.eq_or_lt_of_le (show a ≤ j by omega) with hea | hea
              · subst hea
                go_wp2
                go_region
                all_goals go_wp2
                all_goals go_ret2
                all_goals refine ⟨_, _, _, rfl, HF, ?_, ?_⟩
                all_goals first | exact hk.swp | exact hk.swp.drew | (simp only [HG.out]; first | exact hh.swp b4 b5 | exact (hh.swp b4 b5).drew)
              · have hea2 : j ≠ a := by omega
                go_wp2
                go_region
                all_goals go_wp2
                all_goals go_ret2
                all_goals refine ⟨_, _, _, rfl, HF, ?_, ?_⟩
                all_goals first | exact hk.swp | exact hk.swp.drew | (simp only [HG.out]; first | exact hh.swp b4 b5 | exact (hh.swp b4 b5).drew)
        · have HP2 : Hid (PI (fun x => ltInt x p) a b d p dk (i + 1) j) := HP.out.up hij (by show ltInt dk[i]! p = true; rw [← HP.out.piv, ← HG.out, ← HG.out]; exact hl)
          go_wp2
          go_quiet (first | (go_at_call 49; refine Calls.quiet_of_same (lessB_any _ _ _)))
          go_wp2
          go_roundw
          case rel => exact ⟨i + 1, by go_num, by omega, HP2, hh.drewN _, hk.drewN _⟩
          case measure => simp [intOf]; omega
      · have hst : Hid (i ≤ j → (fun x => ltInt x p) dk[i]! = false) := fun e => absurd e hij
        go_wp2
        go_quiet (first | (go_at_call 49; refine Calls.quiet_of_same (lessB_any _ _ _)))
        generalize hW : wr.drewN nq = wt
        replace hh : Hb g off dk wt := by rw [← hW]; exact hh.drewN _
        replace hk : Kg g w wt := by rw [← hW]; exact hk.drewN _
        clear hW hc hf HG
        try clear hl
        go_wp2
        go_loopw [11] (fun v wr => ∃ j2 : Nat, v = .int .i64 j2 ∧ j2 ≤ j ∧ Hid (PI (fun x => ltInt x p) a b d p dk i j2) ∧ Hid (i ≤ j2 → (fun x => ltInt x p) dk[i]! = false) ∧ Hb g off dk wr ∧ Kg g w wr) (fun v _ => (intOf v).toNat)
        case atStart => exact ⟨j, rfl, Nat.le_refl _, HP, hst, hh, hk⟩
        case round =>
          clear HP hst hh hk
          obtain ⟨j, rfl, hjj, HP, hst, hh, hk⟩ := hrel
          have b1 := HP.out.ia
          have b2 := HP.out.ij
          have b3 := HP.out.jb
          obtain ⟨G, HG, hc, hf⟩ := hh.fam (HP.out.sz.trans hn)
          by_cases hij : i ≤ j
          · exfalso; omega
          · have hsd : Hid (i ≤ j → (fun x => ltInt x p) dk[j]! = true) := fun e => absurd e hij
            go_wp2
            go_quiet (first | (go_at_call 49; refine Calls.quiet_of_same (lessB_any _ _ _)))
            generalize hW : wr.drewN nq = wt
            replace hh : Hb g off dk wt := by rw [← hW]; exact hh.drewN _
            replace hk : Kg g w wt := by rw [← hW]; exact hk.drewN _
            clear hW hc hf HG
            try clear hl
            have hgt : j < i := by omega
            have HF : PartRes a b d j (swp dk j a) := HP.out.fin hgt
            obtain ⟨G, HG, hc, hf⟩ := hh.fam (HP.out.sz.trans hn)
            have b4 : j < dk.size := by have := HP.out.sz; omega
            have b5 : a < dk.size := by have := HP.out.sz; omega
            have b6 : j < n := by omega
            have b7 : a < n := by omega
            rcases Nat.eq_or_lt_of_le (show a ≤ j by omega) with hea | hea
            · subst hea
              go_wp2
              go_region
              all_goals go_wp2
              all_goals go_ret2
              all_goals refine ⟨_, _, _, rfl, HF, ?_, ?_⟩
              all_goals first | exact hk.swp | exact hk.swp.drew | (simp only [HG.out]; first | exact hh.swp b4 b5 | exact (hh.swp b4 b5).drew)
            · have hea2 : j ≠ a := by omega
              go_wp2
              go_region
              all_goals go_wp2
              all_goals go_ret2
              all_goals refine ⟨_, _, _, rfl, HF, ?_, ?_⟩
              all_goals first | exact hk.swp | exact hk.swp.drew | (simp only [HG.out]; first | exact hh.swp b4 b5 | exact (hh.swp b4 b5).drew)

end Go.Proofs.Ytcfbnlkkoifiiaa
