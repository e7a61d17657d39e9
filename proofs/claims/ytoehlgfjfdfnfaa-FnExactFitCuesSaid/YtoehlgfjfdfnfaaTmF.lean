/-
  Contracts of the functions on pieces: the beat at a second.
-/
import Derived.Test.YtoehlgfjfdfnfaaTmE
namespace Go.Proofs.Ytoehlgfjfdfnfaa
open Go.RowKit

theorem atCode_bad {xs : List (Int × Int × Int)} {s : Int} (h : tiCode xs (inB s 0 100000) ≠ 0) : atCode xs s = tiCode xs (inB s 0 100000) := by rw [atCode, if_neg h]
theorem atVal_no {xs : List (Int × Int × Int)} {s : Int} (h : atCode xs s ≠ 0) : atVal xs s = 0 := by rw [atVal, if_neg h]
theorem pr_bd {s U : Int} (hs : 0 ≤ s ∧ s ≤ 100000) (hU : 1 ≤ U ∧ U ≤ 100000000) : 0 ≤ s * U ∧ s * U ≤ 10000000000000 := by
  have h1 : 0 ≤ s * U := Int.mul_nonneg hs.1 (by omega)
  have h2 : s * U ≤ 100000 * 100000000 := Int.mul_le_mul hs.2 hU.2 (by omega) (by omega)
  omega
theorem unI_le {U : Int} {xs : List (Int × Int × Int)} {b : Int} (ok : PtB xs) (hU : 1 ≤ U ∧ U ≤ 100000000) (hb : 0 ≤ b ∧ b ≤ 28800) : 0 ≤ unI U xs b ∧ unI U xs b ≤ 8640000000000 := by
  have := unI_bd (U := U) ok.2 hU hb.1
  omega

theorem specBeatAt_any (A : Option Addr) (n c : Nat) (xs : List (Int × Int × Int)) (s : Int) (w : World) (h : Sl w 3 e3 A n xs) (hn : n ≤ 1048577) (_hs : In64 s) :
    Calls Try.prog 8 #[.slice A n c, .int .i64 s] w fun e w' => e = .returned (.tuple #[.int .i64 (atVal xs s), .int .i64 (atCode xs s)]) ∧ Below w.heap.size w w' := by
  have hl2 := h.1
  cases hok : ptOk xs
  · have HT : Hid (tiCode xs (inB s 0 100000) = 1) := by rw [Hid, tiCode, hok]; rfl
    have H1 : Hid (atCode xs s = 1) := by rw [Hid, atCode_bad (by rw [HT.out]; decide), HT.out]
    have H2 : Hid (atVal xs s = 0) := atVal_no (by rw [H1.out]; decide)
    clear HT
    go_enter Try.func8, Try.ntmps8
    go_wp2_with fail
    refine (l19Ok_any A n c xs _ h hn).mono ?_
    rintro e w2 ⟨rfl, rfl⟩
    go_wp2_with fail
    go_ret2
    exact ⟨ret2 H2.out.symm H1.out.symm, Below.refl _ _⟩
  · have ok := ptOk_iff.1 hok
    have hbt := ok.b.bt_bd
    have hbt1 := ok.bt1
    cases hin : inB s 0 100000
    · have HT : Hid (tiCode xs (inB s 0 100000) = 2) := by rw [Hid, tiCode, hok, hin]; rfl
      have H1 : Hid (atCode xs s = 2) := by rw [Hid, atCode_bad (by rw [HT.out]; decide), HT.out]
      have H2 : Hid (atVal xs s = 0) := atVal_no (by rw [H1.out]; decide)
      clear HT
      go_enter Try.func8, Try.ntmps8
      go_wp2_with fail
      refine (l19Ok_any A n c xs _ h hn).mono ?_
      rintro e w2 ⟨rfl, rfl⟩
      go_wp2_with fail
      refine (l00In_any _ _ _ _).mono ?_
      rintro e w3 ⟨rfl, rfl⟩
      go_wp2_with fail
      go_ret2
      exact ⟨ret2 H2.out.symm H1.out.symm, Below.refl _ _⟩
    · have hs1 := inB_true.1 hin
      by_cases hp : partsI xs = 0
      · have HT : Hid (tiCode xs (inB s 0 100000) = 5) := by rw [Hid, tiCode, hok, hin]; simp [hp]
        have H1 : Hid (atCode xs s = 5) := by rw [Hid, atCode_bad (by rw [HT.out]; decide), HT.out]
        have H2 : Hid (atVal xs s = 0) := atVal_no (by rw [H1.out]; decide)
        have HP := Lib.hid hp
        clear HT hp
        go_enter Try.func8, Try.ntmps8
        go_wp2_with fail
        refine (l19Ok_any A n c xs _ h hn).mono ?_
        rintro e w2 ⟨rfl, rfl⟩
        go_wp2_with fail
        refine (l00In_any _ _ _ _).mono ?_
        rintro e w3 ⟨rfl, rfl⟩
        go_wp2_with fail
        refine (l19Parts_any A n c xs _ h ok.b).mono ?_
        rintro e w4 ⟨rfl, hb4⟩
        rw [HP.out]
        go_wp2_with fail
        go_ret2
        exact ⟨ret2 H2.out.symm H1.out.symm, hb4⟩
      · have HT : Hid (tiCode xs (inB s 0 100000) = 0) := by rw [Hid, tiCode, hok, hin]; simp [hp]
        have hpb := parts_bd ok.b hp
        have HU := Lib.hid (unOk_of ok.b hp)
        have hU : 1 ≤ partsI xs ∧ partsI xs ≤ 100000000 := ⟨hpb.1, hpb.2.1⟩
        have hp2 : (partsI xs == 0) = false := by simp [hp]
        have hS := pr_bd hs1 hU
        have hE := unI_le (b := btI xs) ok.b hU hbt
        have HA : Hid (baI (partsI xs) xs (s * partsI xs) = baI (partsI xs) xs (s * partsI xs)) := rfl
        have HB := Lib.hid (baI_at (U := partsI xs) (xs := xs) (S := s * partsI xs) (by omega) hS.1)
        have r2 : IntKind.i64.wrap (s * partsI xs) = s * partsI xs := wr64 (by omega)
        clear hpb hp
        by_cases hend : unI (partsI xs) xs (btI xs) ≤ s * partsI xs
        · have H1 : Hid (atCode xs s = 3) := by rw [Hid, atCode, if_pos HT.out, if_pos hend]
          have H2 : Hid (atVal xs s = 0) := atVal_no (by rw [H1.out]; decide)
          clear HT
          go_enter Try.func8, Try.ntmps8
          go_wp2_with fail
          refine (l19Ok_any A n c xs _ h hn).mono ?_
          rintro e w2 ⟨rfl, rfl⟩
          go_wp2_with fail
          refine (l00In_any _ _ _ _).mono ?_
          rintro e w3 ⟨rfl, rfl⟩
          go_wp2_with fail
          refine (l19Parts_any A n c xs _ h ok.b).mono ?_
          rintro e w4 ⟨rfl, hb4⟩
          go_wp2_with fail
          refine (l19Beats_any A n c xs _ (h.below hb4) ok.b).mono ?_
          rintro e w5 ⟨rfl, hb5⟩
          have hb45 := below_step hb4 hb5
          go_wp2_with fail
          refine (l19Units_any A n c xs (btI xs) (partsI xs) _ (h.below hb45) ok.b (by omega) hU).mono ?_
          rintro e w6 ⟨rfl, hb6⟩
          have hb46 := below_step hb45 hb6
          go_wp2_with fail
          go_ret2
          exact ⟨ret2 H2.out.symm H1.out.symm, hb46⟩
        · have H1 : Hid (atCode xs s = 0) := by rw [Hid, atCode, if_pos HT.out, if_neg hend]
          have H2 : Hid (atVal xs s = baI (partsI xs) xs (s * partsI xs)) := by rw [Hid, atVal, if_pos H1.out]
          clear HT
          go_enter Try.func8, Try.ntmps8
          go_wp2_with fail
          refine (l19Ok_any A n c xs _ h hn).mono ?_
          rintro e w2 ⟨rfl, rfl⟩
          go_wp2_with fail
          refine (l00In_any _ _ _ _).mono ?_
          rintro e w3 ⟨rfl, rfl⟩
          go_wp2_with fail
          refine (l19Parts_any A n c xs _ h ok.b).mono ?_
          rintro e w4 ⟨rfl, hb4⟩
          go_wp2_with fail
          refine (l19Beats_any A n c xs _ (h.below hb4) ok.b).mono ?_
          rintro e w5 ⟨rfl, hb5⟩
          have hb45 := below_step hb4 hb5
          go_wp2_with fail
          refine (l19Units_any A n c xs (btI xs) (partsI xs) _ (h.below hb45) ok.b (by omega) hU).mono ?_
          rintro e w6 ⟨rfl, hb6⟩
          have hb46 := below_step hb45 hb6
          go_wp2_with fail
          go_loopw [8, 9] (fun lo hi wr => ∃ a b : Int, lo = .int .i64 a ∧ hi = .int .i64 b ∧ 0 ≤ a ∧ a < b ∧ b ≤ btI xs ∧ unI (partsI xs) xs a ≤ s * partsI xs ∧ s * partsI xs < unI (partsI xs) xs b ∧ Below w.heap.size w wr) (fun lo hi _ => (intOf hi - intOf lo).toNat)
          case atStart => exact ⟨0, btI xs, rfl, rfl, by omega, by omega, by omega, by rw [unI_zero]; exact hS.1, by omega, hb46⟩
          case round =>
            obtain ⟨a, b, rfl, rfl, ha, hab, hbl, hlo, hhi, hb⟩ := hrel
            by_cases h1 : 1 < b - a
            · have r1 : IntKind.i64.wrap (Int.tdiv (a + b) 2) = (a + b) / 2 := tdiv64' (by omega) (by omega) (by omega)
              have hm1 : a < (a + b) / 2 := by omega
              have hm2 : (a + b) / 2 < b := by omega
              have hE2 := unI_le (U := partsI xs) (b := (a + b) / 2) ok.b hU (by omega)
              by_cases hle : unI (partsI xs) xs ((a + b) / 2) ≤ s * partsI xs
              · go_wp2_with fail
                refine (l19Units_any A n c xs ((a + b) / 2) (partsI xs) _ (h.below hb) ok.b (by omega) hU).mono ?_
                rintro e w7 ⟨rfl, hb7⟩
                have hb8 := below_mid hb hb7 hb.size
                go_wp2_with fail
                go_roundw
                case rel => exact ⟨(a + b) / 2, b, rfl, rfl, by omega, hm2, hbl, hle, hhi, hb8⟩
                case measure => simp [intOf]; omega
              · go_wp2_with fail
                refine (l19Units_any A n c xs ((a + b) / 2) (partsI xs) _ (h.below hb) ok.b (by omega) hU).mono ?_
                rintro e w7 ⟨rfl, hb7⟩
                have hb8 := below_mid hb hb7 hb.size
                go_wp2_with fail
                go_roundw
                case rel => exact ⟨a, (a + b) / 2, rfl, rfl, ha, hm1, by omega, hlo, by omega, hb8⟩
                case measure => simp [intOf]; omega
            · have hq : b = a + 1 := by omega
              have HV : Hid (a = baI (partsI xs) xs (s * partsI xs)) := BtAt.uniq HU.out ⟨ha, by omega, hlo, fun _ => by rw [← hq]; exact hhi⟩ HB.out
              clear hq
              go_wp2_with fail
              go_ret2
              exact ⟨ret2 (by rw [H2.out]; exact HV.out) H1.out.symm, hb⟩

theorem implBeatAt_any (A : Option Addr) (n c : Nat) (xs : List (Int × Int × Int)) (s : Int) (w : World) (h : Sl w 3 e3 A n xs) (hn : n ≤ 1048577) (_hs : In64 s) :
    Calls Try.prog 10 #[.slice A n c, .int .i64 s] w fun e w' => e = .returned (.tuple #[.int .i64 (atVal xs s), .int .i64 (atCode xs s)]) ∧ Below w.heap.size w w' := by
  have hl2 := h.1
  by_cases hz : tiCode xs (inB s 0 100000) = 0
  · obtain ⟨ok, hr, hp⟩ := tiCode_0 hz
    have HT := Lib.hid hz
    have hs1 := inB_true.1 hr
    have hpb := parts_bd ok.b hp
    have hbt := ok.b.bt_bd
    have hbt1 := ok.bt1
    have HU := Lib.hid (unOk_of ok.b hp)
    have hU : 1 ≤ partsI xs ∧ partsI xs ≤ 100000000 := ⟨hpb.1, hpb.2.1⟩
    have hS := pr_bd hs1 hU
    have HB := Lib.hid (baI_at (U := partsI xs) (xs := xs) (S := s * partsI xs) (by omega) hS.1)
    have r2 : IntKind.i64.wrap (s * partsI xs) = s * partsI xs := wr64 (by omega)
    have HLB := Lib.hid (bgL_len xs (partsI xs))
    obtain ⟨K, hK⟩ := Int.eq_ofNat_of_zero_le hbt.1
    have hE := unI_le (U := partsI xs) (b := (K : Int)) ok.b hU (by omega)
    have HG := Lib.hid (bgL_get (U := partsI xs) (xs := xs) (k := K) (by omega))
    clear hz hp hr hpb
    by_cases hend : unI (partsI xs) xs (K : Int) ≤ s * partsI xs
    · have H1 : Hid (atCode xs s = 3) := by rw [Hid, atCode, if_pos HT.out, hK, if_pos hend]
      have H2 : Hid (atVal xs s = 0) := atVal_no (by rw [H1.out]; decide)
      go_enter Try.func10, Try.ntmps10
      go_wp2_with fail
      have hW : Below w.heap.size w (w.alloc (.cells #[.int .i64 s] 2)) := below_alloc w (.cells #[.int .i64 s] 2)
      have cs : (w.alloc (.cells #[.int .i64 s] 2)).cell? ⟨w.heap.size, 0, none⟩ = some (.int .i64 s) := by simp [go_sem]
      generalize w.alloc (.cells #[.int .i64 s] 2) = W3 at hW cs ⊢
      refine (timesOfB_yes A n c xs s _ W3 (h.below hW) hn cs HT.out).mono ?_
      rintro e w2 ⟨B, m, d, rfl, ho, hb2⟩
      have hWb := below_step hW hb2
      have hmm : m = K + 1 := by have := (ho.sl e1_len).1; rw [HLB.out] at this; omega
      obtain ⟨gb, hB⟩ : ∃ g, B = some ⟨g, 0, none⟩ := by
        rcases ho.form with ⟨_, h0, _⟩ | hg
        · omega
        · exact hg
      subst hB
      subst hmm
      have c1 := (ho.sl e1_len).get1 HG.out
      rw [Nat.zero_add] at c1
      have cs2 := (hb2.cell (World.block_lt_of_cell? _ _ cs)).trans cs
      have g1 : (0 : Int) ≤ (K : Int) := by omega
      have g2 : (K : Int) < ((K + 1 : Nat) : Int) := by omega
      have hm1 : IntKind.i64.wrap (((K + 1 : Nat) : Int) - 1) = (K : Int) := by rw [show ((K + 1 : Nat) : Int) - 1 = (K : Int) by omega]; exact wr64 (by omega)
      go_wp2_with fail
      go_quiet (fail)
      go_wp2_with fail
      go_ret2
      exact ⟨ret2 H2.out.symm H1.out.symm, below_drewN hWb _⟩
    · have H1 : Hid (atCode xs s = 0) := by rw [Hid, atCode, if_pos HT.out, hK, if_neg hend]
      have H2 : Hid (atVal xs s = baI (partsI xs) xs (s * partsI xs)) := by rw [Hid, atVal, if_pos H1.out]
      go_enter Try.func10, Try.ntmps10
      go_wp2_with fail
      have hW : Below w.heap.size w (w.alloc (.cells #[.int .i64 s] 2)) := below_alloc w (.cells #[.int .i64 s] 2)
      have cs : (w.alloc (.cells #[.int .i64 s] 2)).cell? ⟨w.heap.size, 0, none⟩ = some (.int .i64 s) := by simp [go_sem]
      generalize w.alloc (.cells #[.int .i64 s] 2) = W3 at hW cs ⊢
      refine (timesOfB_yes A n c xs s _ W3 (h.below hW) hn cs HT.out).mono ?_
      rintro e w2 ⟨B, m, d, rfl, ho, hb2⟩
      have hWb := below_step hW hb2
      have hmm : m = K + 1 := by have := (ho.sl e1_len).1; rw [HLB.out] at this; omega
      obtain ⟨gb, hB⟩ : ∃ g, B = some ⟨g, 0, none⟩ := by
        rcases ho.form with ⟨_, h0, _⟩ | hg
        · omega
        · exact hg
      subst hB
      subst hmm
      have c1 := (ho.sl e1_len).get1 HG.out
      rw [Nat.zero_add] at c1
      have cs2 := (hb2.cell (World.block_lt_of_cell? _ _ cs)).trans cs
      have g1 : (0 : Int) ≤ (K : Int) := by omega
      have g2 : (K : Int) < ((K + 1 : Nat) : Int) := by omega
      have hm1 : IntKind.i64.wrap (((K + 1 : Nat) : Int) - 1) = (K : Int) := by rw [show ((K + 1 : Nat) : Int) - 1 = (K : Int) by omega]; exact wr64 (by omega)
      have hsl := ho.sl e1_len
      clear ho
      go_wp2_with fail
      go_quiet (fail)
      go_wp2_with fail
      clear c1 g1 g2 hm1
      go_loopw [10] (fun i wr => ∃ k : Nat, i = .int .i64 k ∧ (k : Int) < btI xs ∧ unI (partsI xs) xs k ≤ s * partsI xs ∧ Sl wr 1 e1 (some ⟨gb, 0, none⟩) (K + 1) (bgL (partsI xs) xs) ∧ wr.cell? ⟨w.heap.size, 0, none⟩ = some (.int .i64 s) ∧ Below w.heap.size w wr) (fun i _ => (btI xs - intOf i).toNat)
      case atStart => exact ⟨0, rfl, by omega, by rw [show (((0 : Nat) : Int)) = 0 from rfl, unI_zero]; exact hS.1, hsl.drewN _, cs2, below_drewN hWb _⟩
      case round =>
        obtain ⟨k, rfl, hk1, hk2, hsl, cs3, hb⟩ := hrel
        have HG2 := Lib.hid (bgL_get (U := partsI xs) (xs := xs) (k := k + 1) (by omega))
        have c1 := hsl.get1 HG2.out
        rw [Nat.zero_add] at c1
        have e1' : unI (partsI xs) xs ((k + 1 : Nat) : Int) = unI (partsI xs) xs ((k : Int) + 1) := rfl
        have hE2 := unI_le (U := partsI xs) (b := ((k : Int) + 1)) ok.b hU (by omega)
        rw [e1'] at c1
        clear e1'
        have g1 : (0 : Int) ≤ (k : Int) + 1 := by omega
        have g2 : (k : Int) + 1 < ((K + 1 : Nat) : Int) := by omega
        have hk28 : (k : Int) ≤ 28800 := by omega
        have HKK : Hid (unI (partsI xs) xs ((K : Nat) : Int) = unI (partsI xs) xs (K : Int)) := rfl
        by_cases hle : unI (partsI xs) xs ((k : Int) + 1) ≤ s * partsI xs
        · have hk3 : (k : Int) + 1 < btI xs := by
            apply Classical.byContradiction
            intro hh
            have : (k : Int) + 1 = (K : Int) := by omega
            rw [this] at hle; omega
          go_wp2_with fail
          go_quiet (fail)
          go_wp2_with fail
          go_roundw
          case rel => exact ⟨k + 1, by go_num, by omega, hle, hsl.drewN _, cs3, below_drewN hb _⟩
          case measure => simp [intOf]; omega
        · have HV : Hid ((k : Int) = baI (partsI xs) xs (s * partsI xs)) := BtAt.uniq HU.out ⟨by omega, hk1, hk2, fun _ => by omega⟩ HB.out
          go_wp2_with fail
          go_quiet (fail)
          go_wp2_with fail
          go_ret2
          exact ⟨ret2 (by rw [H2.out]; exact HV.out) H1.out.symm, below_drewN hb _⟩
  · have H1 : Hid (atCode xs s = tiCode xs (inB s 0 100000)) := atCode_bad hz
    have H2 : Hid (atVal xs s = 0) := atVal_no (by rw [H1.out]; exact hz)
    have hz3 : (tiCode xs (inB s 0 100000) != 0) = true := by simp [hz]
    have HZ := Lib.hid hz
    clear hz
    go_enter Try.func10, Try.ntmps10
    go_wp2_with fail
    have hW : Below w.heap.size w (w.alloc (.cells #[.int .i64 s] 2)) := below_alloc w (.cells #[.int .i64 s] 2)
    have cs : (w.alloc (.cells #[.int .i64 s] 2)).cell? ⟨w.heap.size, 0, none⟩ = some (.int .i64 s) := by simp [go_sem]
    generalize w.alloc (.cells #[.int .i64 s] 2) = W3 at hW cs ⊢
    refine (timesOfB_no A n c xs s _ W3 (h.below hW) hn cs HZ.out).mono ?_
    rintro e w2 ⟨rfl, hb2⟩
    have hWb := below_step hW hb2
    go_wp2_with fail
    go_ret2
    exact ⟨ret2 H2.out.symm H1.out.symm, hWb⟩

end Go.Proofs.Ytoehlgfjfdfnfaa
