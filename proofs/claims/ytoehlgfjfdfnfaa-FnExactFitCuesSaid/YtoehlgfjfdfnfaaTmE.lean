/-
  Contracts of the functions on pieces: the time of a beat, the length of a piece, the beat at a second.
-/
import Derived.Test.YtoehlgfjfdfnfaaTmD
namespace Go.Proofs.Ytoehlgfjfdfnfaa
open Go.RowKit


theorem bgL_len (xs : List (Int × Int × Int)) (U : Int) : (bgL U xs).length = (btI xs).toNat + 1 := by rw [bgL, bgT_len]
theorem bgL_get {xs : List (Int × Int × Int)} {U : Int} {k : Nat} (h : (k : Int) ≤ btI xs) : (bgL U xs)[k]? = some (unI U xs k) := bgT_get (by omega)

theorem implTimeOfBeat_any (A : Option Addr) (n c : Nat) (xs : List (Int × Int × Int)) (b : Int) (w : World) (h : Sl w 3 e3 A n xs) (hn : n ≤ 1048577) (_hb : In64 b) :
    Calls Try.prog 16 #[.slice A n c, .int .i64 b] w fun e w' => e = .returned (.tuple #[.agg #[.int .i64 (tbVal xs b).1, .int .i64 (tbVal xs b).2], .int .i64 (tbCode xs b)]) ∧ Below w.heap.size w w' := by
  have hl2 := h.1
  by_cases hz : tiCode xs (inB b 0 (btI xs - 1)) = 0
  · have H1 : Hid (tbCode xs b = 0) := hz
    obtain ⟨ok, hr, hp⟩ := tiCode_0 hz
    have hpb := parts_bd ok.b hp
    have hbt := ok.b.bt_bd
    have H2 : Hid (tbVal xs b = fracOf (unI (partsI xs) xs b) (partsI xs)) := by rw [Hid, tbVal, if_pos H1.out]
    have HZ := Lib.hid hz
    clear hz hp
    have HLB := Lib.hid (bgL_len xs (partsI xs))
    have hr1 := inB_true.1 hr
    obtain ⟨K, rfl⟩ := Int.eq_ofNat_of_zero_le hr1.1
    have HG := Lib.hid (bgL_get (U := partsI xs) (xs := xs) (k := K) (by omega))
    have hub := unI_bd (U := partsI xs) (xs := xs) (b := (K : Int)) ok.b.2 ⟨hpb.1, hpb.2.1⟩ (by omega)
    clear hr
    go_enter Try.func16, Try.ntmps16
    go_wp2_with fail
    have hW : Below w.heap.size w (((w.alloc (.cells #[.slice A n c] 26)).alloc (.cells #[.int .i64 (K : Int)] 2)).alloc (.cells #[.int .i64 0, .int .i64 0] 31)) := (((below_alloc w (.cells #[.slice A n c] 26)).alloc (by simp <;> omega) (.cells #[.int .i64 (K : Int)] 2)).alloc (by simp <;> omega) (.cells #[.int .i64 0, .int .i64 0] 31))
    have cl : (((w.alloc (.cells #[.slice A n c] 26)).alloc (.cells #[.int .i64 (K : Int)] 2)).alloc (.cells #[.int .i64 0, .int .i64 0] 31)).cell? ⟨w.heap.size, 0, none⟩ = some (.slice A n c) := by simp [go_sem]
    have cb : (((w.alloc (.cells #[.slice A n c] 26)).alloc (.cells #[.int .i64 (K : Int)] 2)).alloc (.cells #[.int .i64 0, .int .i64 0] 31)).cell? ⟨w.heap.size + 1, 0, none⟩ = some (.int .i64 (K : Int)) := by simp [go_sem]
    have f0 : (((w.alloc (.cells #[.slice A n c] 26)).alloc (.cells #[.int .i64 (K : Int)] 2)).alloc (.cells #[.int .i64 0, .int .i64 0] 31)).cell? ⟨w.heap.size + 1 + 1, 0, none⟩ = some (.int .i64 0) := by simp [go_sem]
    have f1 : (((w.alloc (.cells #[.slice A n c] 26)).alloc (.cells #[.int .i64 (K : Int)] 2)).alloc (.cells #[.int .i64 0, .int .i64 0] 31)).cell? ⟨w.heap.size + 1 + 1, 1, none⟩ = some (.int .i64 0) := by simp [go_sem]
    have n0 : (((w.alloc (.cells #[.slice A n c] 26)).alloc (.cells #[.int .i64 (K : Int)] 2)).alloc (.cells #[.int .i64 0, .int .i64 0] 31)).frozen? ⟨w.heap.size + 1 + 1, 0, none⟩ = false := by simp [go_sem]
    have n1 : (((w.alloc (.cells #[.slice A n c] 26)).alloc (.cells #[.int .i64 (K : Int)] 2)).alloc (.cells #[.int .i64 0, .int .i64 0] 31)).frozen? ⟨w.heap.size + 1 + 1, 1, none⟩ = false := by simp [go_sem]
    generalize (((w.alloc (.cells #[.slice A n c] 26)).alloc (.cells #[.int .i64 (K : Int)] 2)).alloc (.cells #[.int .i64 0, .int .i64 0] 31)) = W3 at hW cl cb f0 f1 n0 n1 ⊢
    refine (timesOfT_yes A n c xs (K : Int) _ _ W3 (h.below hW) hn cb cl HZ.out).mono ?_
    rintro e w2 ⟨B, m, d, rfl, ho, hb2⟩
    have hWb := below_step hW hb2
    have hmm : m = (btI xs).toNat + 1 := by rw [← HLB.out]; exact (ho.sl e1_len).1.symm
    obtain ⟨gb, hB⟩ : ∃ g, B = some ⟨g, 0, none⟩ := by
      rcases ho.form with ⟨_, h0, _⟩ | hg
      · omega
      · exact hg
    subst hB
    have c1 := (ho.sl e1_len).get1 HG.out
    rw [Nat.zero_add] at c1
    have g1 : (0 : Int) ≤ (K : Int) := by omega
    have g2 : (K : Int) < (m : Int) := by omega
    have cb2 := (hb2.cell (World.block_lt_of_cell? _ _ cb)).trans cb
    go_wp2_with fail
    refine (lowest_any (unI (partsI xs) xs (K : Int)) (partsI xs) _ hub.1 (by omega) (by omega) (by omega)).mono ?_
    rintro e w5 ⟨rfl, hb5⟩
    have hb25 := below_step hb2 hb5
    have hWc := below_step hW hb25
    have k0 := (hb25.cell (World.block_lt_of_cell? _ _ f0)).trans f0
    have k1 := (hb25.cell (World.block_lt_of_cell? _ _ f1)).trans f1
    have m0 := (hb25.frozen (World.block_lt_of_cell? _ _ f0)).trans n0
    have m1 := (hb25.frozen (World.block_lt_of_cell? _ _ f1)).trans n1
    go_wp2_with fail
    have q0 : (w5.setCell ⟨w.heap.size + 1 + 1, 0, none⟩ (.int .i64 (fracOf (unI (partsI xs) xs (K : Int)) (partsI xs)).1)).cell? ⟨w.heap.size + 1 + 1, 0, none⟩ = some (.int .i64 (fracOf (unI (partsI xs) xs (K : Int)) (partsI xs)).1) := World.cell?_setCell_same _ _ _ k0
    have q1 : ((w5.setCell ⟨w.heap.size + 1 + 1, 0, none⟩ (.int .i64 (fracOf (unI (partsI xs) xs (K : Int)) (partsI xs)).1)).setCell ⟨w.heap.size + 1 + 1, 1, none⟩ (.int .i64 (fracOf (unI (partsI xs) xs (K : Int)) (partsI xs)).2)).cell? ⟨w.heap.size + 1 + 1, 1, none⟩ = some (.int .i64 (fracOf (unI (partsI xs) xs (K : Int)) (partsI xs)).2) :=
      World.cell?_setCell_same _ _ _ ((World.cell?_setCell_other _ _ _ _ (by simp)).trans k1)
    exact bodyPost_ret (v := .tuple #[.agg #[.int .i64 (fracOf (unI (partsI xs) xs (K : Int)) (partsI xs)).1, .int .i64 (fracOf (unI (partsI xs) xs (K : Int)) (partsI xs)).2], .int .i64 0]) (by simp [results, Try.results16, go_sem, q0, q1]) rfl ⟨by rw [H1.out, H2.out], (hWc.setCell (by simp <;> omega) _).setCell (by simp <;> omega) _⟩
  · have H1 : Hid (tbCode xs b = tiCode xs (inB b 0 (btI xs - 1))) := rfl
    have H2 : Hid (tbVal xs b = (0, 0)) := by rw [Hid, tbVal, if_neg (by rw [H1.out]; exact hz)]
    have hz3 : (tiCode xs (inB b 0 (btI xs - 1)) != 0) = true := by simp [hz]
    have HZ := Lib.hid hz
    clear hz
    go_enter Try.func16, Try.ntmps16
    go_wp2_with fail
    have hW : Below w.heap.size w (((w.alloc (.cells #[.slice A n c] 26)).alloc (.cells #[.int .i64 b] 2)).alloc (.cells #[.int .i64 0, .int .i64 0] 31)) := (((below_alloc w (.cells #[.slice A n c] 26)).alloc (by simp <;> omega) (.cells #[.int .i64 b] 2)).alloc (by simp <;> omega) (.cells #[.int .i64 0, .int .i64 0] 31))
    have cl : (((w.alloc (.cells #[.slice A n c] 26)).alloc (.cells #[.int .i64 b] 2)).alloc (.cells #[.int .i64 0, .int .i64 0] 31)).cell? ⟨w.heap.size, 0, none⟩ = some (.slice A n c) := by simp [go_sem]
    have cb : (((w.alloc (.cells #[.slice A n c] 26)).alloc (.cells #[.int .i64 b] 2)).alloc (.cells #[.int .i64 0, .int .i64 0] 31)).cell? ⟨w.heap.size + 1, 0, none⟩ = some (.int .i64 b) := by simp [go_sem]
    have f0 : (((w.alloc (.cells #[.slice A n c] 26)).alloc (.cells #[.int .i64 b] 2)).alloc (.cells #[.int .i64 0, .int .i64 0] 31)).cell? ⟨w.heap.size + 1 + 1, 0, none⟩ = some (.int .i64 0) := by simp [go_sem]
    have f1 : (((w.alloc (.cells #[.slice A n c] 26)).alloc (.cells #[.int .i64 b] 2)).alloc (.cells #[.int .i64 0, .int .i64 0] 31)).cell? ⟨w.heap.size + 1 + 1, 1, none⟩ = some (.int .i64 0) := by simp [go_sem]
    have n0 : (((w.alloc (.cells #[.slice A n c] 26)).alloc (.cells #[.int .i64 b] 2)).alloc (.cells #[.int .i64 0, .int .i64 0] 31)).frozen? ⟨w.heap.size + 1 + 1, 0, none⟩ = false := by simp [go_sem]
    have n1 : (((w.alloc (.cells #[.slice A n c] 26)).alloc (.cells #[.int .i64 b] 2)).alloc (.cells #[.int .i64 0, .int .i64 0] 31)).frozen? ⟨w.heap.size + 1 + 1, 1, none⟩ = false := by simp [go_sem]
    generalize (((w.alloc (.cells #[.slice A n c] 26)).alloc (.cells #[.int .i64 b] 2)).alloc (.cells #[.int .i64 0, .int .i64 0] 31)) = W3 at hW cl cb f0 f1 n0 n1 ⊢
    refine (timesOfT_no A n c xs b _ _ W3 (h.below hW) hn cb cl HZ.out).mono ?_
    rintro e w2 ⟨rfl, hb2⟩
    have hWb := below_step hW hb2
    have k0 := (hb2.cell (World.block_lt_of_cell? _ _ f0)).trans f0
    have k1 := (hb2.cell (World.block_lt_of_cell? _ _ f1)).trans f1
    have m0 := (hb2.frozen (World.block_lt_of_cell? _ _ f0)).trans n0
    have m1 := (hb2.frozen (World.block_lt_of_cell? _ _ f1)).trans n1
    go_wp2_with fail
    have q0 : (w2.setCell ⟨w.heap.size + 1 + 1, 0, none⟩ (.int .i64 0)).cell? ⟨w.heap.size + 1 + 1, 0, none⟩ = some (.int .i64 0) := World.cell?_setCell_same _ _ _ k0
    have q1 : ((w2.setCell ⟨w.heap.size + 1 + 1, 0, none⟩ (.int .i64 0)).setCell ⟨w.heap.size + 1 + 1, 1, none⟩ (.int .i64 0)).cell? ⟨w.heap.size + 1 + 1, 1, none⟩ = some (.int .i64 0) :=
      World.cell?_setCell_same _ _ _ ((World.cell?_setCell_other _ _ _ _ (by simp)).trans k1)
    exact bodyPost_ret (v := .tuple #[.agg #[.int .i64 0, .int .i64 0], .int .i64 (tiCode xs (inB b 0 (btI xs - 1)))]) (by simp [results, Try.results16, go_sem, q0, q1]) rfl ⟨by rw [H1.out, H2.out], (hWb.setCell (by simp <;> omega) _).setCell (by simp <;> omega) _⟩

theorem implLengthOfPiece_any (A : Option Addr) (n c : Nat) (xs : List (Int × Int × Int))  (w : World) (h : Sl w 3 e3 A n xs) (hn : n ≤ 1048577) :
    Calls Try.prog 13 #[.slice A n c] w fun e w' => e = .returned (.tuple #[.agg #[.int .i64 (lpVal xs).1, .int .i64 (lpVal xs).2], .int .i64 (lpCode xs)]) ∧ Below w.heap.size w w' := by
  have hl2 := h.1
  by_cases hz : tiCode xs (true) = 0
  · have H1 : Hid (lpCode xs = 0) := hz
    obtain ⟨ok, hr, hp⟩ := tiCode_0 hz
    have hpb := parts_bd ok.b hp
    have hbt := ok.b.bt_bd
    have H2 : Hid (lpVal xs = fracOf (unI (partsI xs) xs (btI xs)) (partsI xs)) := by rw [Hid, lpVal, if_pos H1.out]
    have HZ := Lib.hid hz
    clear hz hp
    have HLB := Lib.hid (bgL_len xs (partsI xs))
    obtain ⟨K, hK⟩ := Int.eq_ofNat_of_zero_le hbt.1
    have HG := Lib.hid (bgL_get (U := partsI xs) (xs := xs) (k := K) (by omega))
    have hub := unI_bd (U := partsI xs) (xs := xs) (b := (K : Int)) ok.b.2 ⟨hpb.1, hpb.2.1⟩ (by omega)
    rw [hK] at H2
    clear hr
    go_enter Try.func13, Try.ntmps13
    go_wp2_with fail
    have hW : Below w.heap.size w (w.alloc (.cells #[.int .i64 0, .int .i64 0] 31)) := (below_alloc w (.cells #[.int .i64 0, .int .i64 0] 31))
    have f0 : (w.alloc (.cells #[.int .i64 0, .int .i64 0] 31)).cell? ⟨w.heap.size, 0, none⟩ = some (.int .i64 0) := by simp [go_sem]
    have f1 : (w.alloc (.cells #[.int .i64 0, .int .i64 0] 31)).cell? ⟨w.heap.size, 1, none⟩ = some (.int .i64 0) := by simp [go_sem]
    have n0 : (w.alloc (.cells #[.int .i64 0, .int .i64 0] 31)).frozen? ⟨w.heap.size, 0, none⟩ = false := by simp [go_sem]
    have n1 : (w.alloc (.cells #[.int .i64 0, .int .i64 0] 31)).frozen? ⟨w.heap.size, 1, none⟩ = false := by simp [go_sem]
    generalize (w.alloc (.cells #[.int .i64 0, .int .i64 0] 31)) = W3 at hW f0 f1 n0 n1 ⊢
    refine (timesOfL_yes A n c xs W3 (h.below hW) hn HZ.out).mono ?_
    rintro e w2 ⟨B, m, d, rfl, ho, hb2⟩
    have hWb := below_step hW hb2
    have hmm : m = (btI xs).toNat + 1 := by rw [← HLB.out]; exact (ho.sl e1_len).1.symm
    obtain ⟨gb, hB⟩ : ∃ g, B = some ⟨g, 0, none⟩ := by
      rcases ho.form with ⟨_, h0, _⟩ | hg
      · omega
      · exact hg
    subst hB
    have c1 := (ho.sl e1_len).get1 HG.out
    rw [Nat.zero_add] at c1
    have g1 : (0 : Int) ≤ (K : Int) := by omega
    have g2 : (K : Int) < (m : Int) := by omega
    have hm1 : IntKind.i64.wrap ((m : Int) - 1) = (K : Int) := by rw [show (m : Int) - 1 = (K : Int) by omega]; exact wr64 (by omega)
    go_wp2_with fail
    refine (lowest_any (unI (partsI xs) xs (K : Int)) (partsI xs) _ hub.1 (by omega) (by omega) (by omega)).mono ?_
    rintro e w5 ⟨rfl, hb5⟩
    have hb25 := below_step hb2 hb5
    have hWc := below_step hW hb25
    have k0 := (hb25.cell (World.block_lt_of_cell? _ _ f0)).trans f0
    have k1 := (hb25.cell (World.block_lt_of_cell? _ _ f1)).trans f1
    have m0 := (hb25.frozen (World.block_lt_of_cell? _ _ f0)).trans n0
    have m1 := (hb25.frozen (World.block_lt_of_cell? _ _ f1)).trans n1
    go_wp2_with fail
    have q0 : (w5.setCell ⟨w.heap.size, 0, none⟩ (.int .i64 (fracOf (unI (partsI xs) xs (K : Int)) (partsI xs)).1)).cell? ⟨w.heap.size, 0, none⟩ = some (.int .i64 (fracOf (unI (partsI xs) xs (K : Int)) (partsI xs)).1) := World.cell?_setCell_same _ _ _ k0
    have q1 : ((w5.setCell ⟨w.heap.size, 0, none⟩ (.int .i64 (fracOf (unI (partsI xs) xs (K : Int)) (partsI xs)).1)).setCell ⟨w.heap.size, 1, none⟩ (.int .i64 (fracOf (unI (partsI xs) xs (K : Int)) (partsI xs)).2)).cell? ⟨w.heap.size, 1, none⟩ = some (.int .i64 (fracOf (unI (partsI xs) xs (K : Int)) (partsI xs)).2) :=
      World.cell?_setCell_same _ _ _ ((World.cell?_setCell_other _ _ _ _ (by simp)).trans k1)
    exact bodyPost_ret (v := .tuple #[.agg #[.int .i64 (fracOf (unI (partsI xs) xs (K : Int)) (partsI xs)).1, .int .i64 (fracOf (unI (partsI xs) xs (K : Int)) (partsI xs)).2], .int .i64 0]) (by simp [results, Try.results13, go_sem, q0, q1]) rfl ⟨by rw [H1.out, H2.out], (hWc.setCell (by simp <;> omega) _).setCell (by simp <;> omega) _⟩
  · have H1 : Hid (lpCode xs = tiCode xs (true)) := rfl
    have H2 : Hid (lpVal xs = (0, 0)) := by rw [Hid, lpVal, if_neg (by rw [H1.out]; exact hz)]
    have hz3 : (tiCode xs (true) != 0) = true := by simp [hz]
    have HZ := Lib.hid hz
    clear hz
    go_enter Try.func13, Try.ntmps13
    go_wp2_with fail
    have hW : Below w.heap.size w (w.alloc (.cells #[.int .i64 0, .int .i64 0] 31)) := (below_alloc w (.cells #[.int .i64 0, .int .i64 0] 31))
    have f0 : (w.alloc (.cells #[.int .i64 0, .int .i64 0] 31)).cell? ⟨w.heap.size, 0, none⟩ = some (.int .i64 0) := by simp [go_sem]
    have f1 : (w.alloc (.cells #[.int .i64 0, .int .i64 0] 31)).cell? ⟨w.heap.size, 1, none⟩ = some (.int .i64 0) := by simp [go_sem]
    have n0 : (w.alloc (.cells #[.int .i64 0, .int .i64 0] 31)).frozen? ⟨w.heap.size, 0, none⟩ = false := by simp [go_sem]
    have n1 : (w.alloc (.cells #[.int .i64 0, .int .i64 0] 31)).frozen? ⟨w.heap.size, 1, none⟩ = false := by simp [go_sem]
    generalize (w.alloc (.cells #[.int .i64 0, .int .i64 0] 31)) = W3 at hW f0 f1 n0 n1 ⊢
    refine (timesOfL_no A n c xs W3 (h.below hW) hn HZ.out).mono ?_
    rintro e w2 ⟨rfl, hb2⟩
    have hWb := below_step hW hb2
    have k0 := (hb2.cell (World.block_lt_of_cell? _ _ f0)).trans f0
    have k1 := (hb2.cell (World.block_lt_of_cell? _ _ f1)).trans f1
    have m0 := (hb2.frozen (World.block_lt_of_cell? _ _ f0)).trans n0
    have m1 := (hb2.frozen (World.block_lt_of_cell? _ _ f1)).trans n1
    go_wp2_with fail
    have q0 : (w2.setCell ⟨w.heap.size, 0, none⟩ (.int .i64 0)).cell? ⟨w.heap.size, 0, none⟩ = some (.int .i64 0) := World.cell?_setCell_same _ _ _ k0
    have q1 : ((w2.setCell ⟨w.heap.size, 0, none⟩ (.int .i64 0)).setCell ⟨w.heap.size, 1, none⟩ (.int .i64 0)).cell? ⟨w.heap.size, 1, none⟩ = some (.int .i64 0) :=
      World.cell?_setCell_same _ _ _ ((World.cell?_setCell_other _ _ _ _ (by simp)).trans k1)
    exact bodyPost_ret (v := .tuple #[.agg #[.int .i64 0, .int .i64 0], .int .i64 (tiCode xs (true))]) (by simp [results, Try.results13, go_sem, q0, q1]) rfl ⟨by rw [H1.out, H2.out], (hWb.setCell (by simp <;> omega) _).setCell (by simp <;> omega) _⟩

theorem specTimeOfBeat_any (A : Option Addr) (n c : Nat) (xs : List (Int × Int × Int)) (b : Int) (w : World) (h : Sl w 3 e3 A n xs) (hn : n ≤ 1048577) (_hb : In64 b) :
    Calls Try.prog 15 #[.slice A n c, .int .i64 b] w fun e w' => e = .returned (.tuple #[.agg #[.int .i64 (tbVal xs b).1, .int .i64 (tbVal xs b).2], .int .i64 (tbCode xs b)]) ∧ Below w.heap.size w w' := by
  have HC : Hid (tbCode xs b = tiCode xs (inB b 0 (btI xs - 1))) := rfl
  rcases (show bcCode xs b = 1 ∧ tiCode xs (inB b 0 (btI xs - 1)) = 1 ∨ bcCode xs b = 2 ∧ tiCode xs (inB b 0 (btI xs - 1)) = 2 ∨ bcCode xs b = 0 from by
    unfold bcCode tiCode
    cases ptOk xs <;> cases inB b 0 (btI xs - 1) <;> simp) with ⟨hz, hz1⟩ | ⟨hz, hz1⟩ | hz
  · have HZ : Hid (bcCode xs b = 1) := hz
    have H1 : Hid (tbCode xs b = 1) := by rw [Hid, HC.out]; exact hz1
    have H2 : Hid (tbVal xs b = (0, 0)) := by rw [Hid, tbVal, if_neg (by rw [H1.out]; decide)]
    go_enter Try.func15, Try.ntmps15
    go_wp2_with fail
    have hW : Below w.heap.size w (w.alloc (.cells #[.int .i64 0, .int .i64 0] 31)) := (below_alloc w (.cells #[.int .i64 0, .int .i64 0] 31))
    have f0 : (w.alloc (.cells #[.int .i64 0, .int .i64 0] 31)).cell? ⟨w.heap.size, 0, none⟩ = some (.int .i64 0) := by simp [go_sem]
    have f1 : (w.alloc (.cells #[.int .i64 0, .int .i64 0] 31)).cell? ⟨w.heap.size, 1, none⟩ = some (.int .i64 0) := by simp [go_sem]
    have n0 : (w.alloc (.cells #[.int .i64 0, .int .i64 0] 31)).frozen? ⟨w.heap.size, 0, none⟩ = false := by simp [go_sem]
    have n1 : (w.alloc (.cells #[.int .i64 0, .int .i64 0] 31)).frozen? ⟨w.heap.size, 1, none⟩ = false := by simp [go_sem]
    generalize (w.alloc (.cells #[.int .i64 0, .int .i64 0] 31)) = W3 at hW f0 f1 n0 n1 ⊢
    refine (l19Code_any A n c xs b W3 (h.below hW) hn).mono ?_
    rintro e w2 ⟨rfl, hb2⟩
    rw [HZ.out]
    have hWb := below_step hW hb2
    have k0 := (hb2.cell (World.block_lt_of_cell? _ _ f0)).trans f0
    have k1 := (hb2.cell (World.block_lt_of_cell? _ _ f1)).trans f1
    have m0 := (hb2.frozen (World.block_lt_of_cell? _ _ f0)).trans n0
    have m1 := (hb2.frozen (World.block_lt_of_cell? _ _ f1)).trans n1
    go_wp2_with fail
    have q0 : (w2.setCell ⟨w.heap.size, 0, none⟩ (.int .i64 0)).cell? ⟨w.heap.size, 0, none⟩ = some (.int .i64 0) := World.cell?_setCell_same _ _ _ k0
    have q1 : ((w2.setCell ⟨w.heap.size, 0, none⟩ (.int .i64 0)).setCell ⟨w.heap.size, 1, none⟩ (.int .i64 0)).cell? ⟨w.heap.size, 1, none⟩ = some (.int .i64 0) :=
      World.cell?_setCell_same _ _ _ ((World.cell?_setCell_other _ _ _ _ (by simp)).trans k1)
    exact bodyPost_ret (v := .tuple #[.agg #[.int .i64 0, .int .i64 0], .int .i64 1]) (by simp [results, Try.results15, go_sem, q0, q1]) rfl ⟨by rw [H1.out, H2.out], (hWb.setCell (by simp <;> omega) _).setCell (by simp <;> omega) _⟩
  · have HZ : Hid (bcCode xs b = 2) := hz
    have H1 : Hid (tbCode xs b = 2) := by rw [Hid, HC.out]; exact hz1
    have H2 : Hid (tbVal xs b = (0, 0)) := by rw [Hid, tbVal, if_neg (by rw [H1.out]; decide)]
    go_enter Try.func15, Try.ntmps15
    go_wp2_with fail
    have hW : Below w.heap.size w (w.alloc (.cells #[.int .i64 0, .int .i64 0] 31)) := (below_alloc w (.cells #[.int .i64 0, .int .i64 0] 31))
    have f0 : (w.alloc (.cells #[.int .i64 0, .int .i64 0] 31)).cell? ⟨w.heap.size, 0, none⟩ = some (.int .i64 0) := by simp [go_sem]
    have f1 : (w.alloc (.cells #[.int .i64 0, .int .i64 0] 31)).cell? ⟨w.heap.size, 1, none⟩ = some (.int .i64 0) := by simp [go_sem]
    have n0 : (w.alloc (.cells #[.int .i64 0, .int .i64 0] 31)).frozen? ⟨w.heap.size, 0, none⟩ = false := by simp [go_sem]
    have n1 : (w.alloc (.cells #[.int .i64 0, .int .i64 0] 31)).frozen? ⟨w.heap.size, 1, none⟩ = false := by simp [go_sem]
    generalize (w.alloc (.cells #[.int .i64 0, .int .i64 0] 31)) = W3 at hW f0 f1 n0 n1 ⊢
    refine (l19Code_any A n c xs b W3 (h.below hW) hn).mono ?_
    rintro e w2 ⟨rfl, hb2⟩
    rw [HZ.out]
    have hWb := below_step hW hb2
    have k0 := (hb2.cell (World.block_lt_of_cell? _ _ f0)).trans f0
    have k1 := (hb2.cell (World.block_lt_of_cell? _ _ f1)).trans f1
    have m0 := (hb2.frozen (World.block_lt_of_cell? _ _ f0)).trans n0
    have m1 := (hb2.frozen (World.block_lt_of_cell? _ _ f1)).trans n1
    go_wp2_with fail
    have q0 : (w2.setCell ⟨w.heap.size, 0, none⟩ (.int .i64 0)).cell? ⟨w.heap.size, 0, none⟩ = some (.int .i64 0) := World.cell?_setCell_same _ _ _ k0
    have q1 : ((w2.setCell ⟨w.heap.size, 0, none⟩ (.int .i64 0)).setCell ⟨w.heap.size, 1, none⟩ (.int .i64 0)).cell? ⟨w.heap.size, 1, none⟩ = some (.int .i64 0) :=
      World.cell?_setCell_same _ _ _ ((World.cell?_setCell_other _ _ _ _ (by simp)).trans k1)
    exact bodyPost_ret (v := .tuple #[.agg #[.int .i64 0, .int .i64 0], .int .i64 2]) (by simp [results, Try.results15, go_sem, q0, q1]) rfl ⟨by rw [H1.out, H2.out], (hWb.setCell (by simp <;> omega) _).setCell (by simp <;> omega) _⟩
  · obtain ⟨hok, hin⟩ := bcCode_zero hz
    have ok := ptOk_iff.1 hok
    have hr1 := inB_true.1 hin
    have hbt := ok.b.bt_bd
    have HZ : Hid (bcCode xs b = 0) := hz
    by_cases hp : partsI xs = 0
    · have H1 : Hid (tbCode xs b = 5) := by rw [Hid, HC.out, tiCode, hok, hin]; simp [hp]
      have H2 : Hid (tbVal xs b = (0, 0)) := by rw [Hid, tbVal, if_neg (by rw [H1.out]; decide)]
      have HP := Lib.hid hp
      clear hp hz hok hin
      go_enter Try.func15, Try.ntmps15
      go_wp2_with fail
      have hW : Below w.heap.size w (w.alloc (.cells #[.int .i64 0, .int .i64 0] 31)) := (below_alloc w (.cells #[.int .i64 0, .int .i64 0] 31))
      have f0 : (w.alloc (.cells #[.int .i64 0, .int .i64 0] 31)).cell? ⟨w.heap.size, 0, none⟩ = some (.int .i64 0) := by simp [go_sem]
      have f1 : (w.alloc (.cells #[.int .i64 0, .int .i64 0] 31)).cell? ⟨w.heap.size, 1, none⟩ = some (.int .i64 0) := by simp [go_sem]
      have n0 : (w.alloc (.cells #[.int .i64 0, .int .i64 0] 31)).frozen? ⟨w.heap.size, 0, none⟩ = false := by simp [go_sem]
      have n1 : (w.alloc (.cells #[.int .i64 0, .int .i64 0] 31)).frozen? ⟨w.heap.size, 1, none⟩ = false := by simp [go_sem]
      generalize (w.alloc (.cells #[.int .i64 0, .int .i64 0] 31)) = W3 at hW f0 f1 n0 n1 ⊢
      refine (l19Code_any A n c xs b W3 (h.below hW) hn).mono ?_
      rintro e w2 ⟨rfl, hb2⟩
      rw [HZ.out]
      have hWb := below_step hW hb2
      go_wp2_with fail
      refine (l19Parts_any A n c xs _ (h.below hWb) ok.b).mono ?_
      rintro e w3 ⟨rfl, hb3⟩
      rw [HP.out]
      have hb23 := below_step hb2 hb3
      have hWc := below_step hW hb23
      have k0 := (hb23.cell (World.block_lt_of_cell? _ _ f0)).trans f0
      have k1 := (hb23.cell (World.block_lt_of_cell? _ _ f1)).trans f1
      have m0 := (hb23.frozen (World.block_lt_of_cell? _ _ f0)).trans n0
      have m1 := (hb23.frozen (World.block_lt_of_cell? _ _ f1)).trans n1
      go_wp2_with fail
      have q0 : (w3.setCell ⟨w.heap.size, 0, none⟩ (.int .i64 0)).cell? ⟨w.heap.size, 0, none⟩ = some (.int .i64 0) := World.cell?_setCell_same _ _ _ k0
      have q1 : ((w3.setCell ⟨w.heap.size, 0, none⟩ (.int .i64 0)).setCell ⟨w.heap.size, 1, none⟩ (.int .i64 0)).cell? ⟨w.heap.size, 1, none⟩ = some (.int .i64 0) :=
        World.cell?_setCell_same _ _ _ ((World.cell?_setCell_other _ _ _ _ (by simp)).trans k1)
      exact bodyPost_ret (v := .tuple #[.agg #[.int .i64 0, .int .i64 0], .int .i64 5]) (by simp [results, Try.results15, go_sem, q0, q1]) rfl ⟨by rw [H1.out, H2.out], (hWc.setCell (by simp <;> omega) _).setCell (by simp <;> omega) _⟩
    · have H1 : Hid (tbCode xs b = 0) := by rw [Hid, HC.out, tiCode, hok, hin]; simp [hp]
      have hpb := parts_bd ok.b hp
      have H2 : Hid (tbVal xs b = fracOf (unI (partsI xs) xs b) (partsI xs)) := by rw [Hid, tbVal, if_pos H1.out]
      have hp2 : (partsI xs == 0) = false := by simp [hp]
      have hub := unI_bd (U := partsI xs) (xs := xs) (b := b) ok.b.2 ⟨hpb.1, hpb.2.1⟩ (by omega)
      clear hp hz hok hin
      go_enter Try.func15, Try.ntmps15
      go_wp2_with fail
      have hW : Below w.heap.size w (w.alloc (.cells #[.int .i64 0, .int .i64 0] 31)) := (below_alloc w (.cells #[.int .i64 0, .int .i64 0] 31))
      have f0 : (w.alloc (.cells #[.int .i64 0, .int .i64 0] 31)).cell? ⟨w.heap.size, 0, none⟩ = some (.int .i64 0) := by simp [go_sem]
      have f1 : (w.alloc (.cells #[.int .i64 0, .int .i64 0] 31)).cell? ⟨w.heap.size, 1, none⟩ = some (.int .i64 0) := by simp [go_sem]
      have n0 : (w.alloc (.cells #[.int .i64 0, .int .i64 0] 31)).frozen? ⟨w.heap.size, 0, none⟩ = false := by simp [go_sem]
      have n1 : (w.alloc (.cells #[.int .i64 0, .int .i64 0] 31)).frozen? ⟨w.heap.size, 1, none⟩ = false := by simp [go_sem]
      generalize (w.alloc (.cells #[.int .i64 0, .int .i64 0] 31)) = W3 at hW f0 f1 n0 n1 ⊢
      refine (l19Code_any A n c xs b W3 (h.below hW) hn).mono ?_
      rintro e w2 ⟨rfl, hb2⟩
      rw [HZ.out]
      have hWb := below_step hW hb2
      go_wp2_with fail
      refine (l19Parts_any A n c xs _ (h.below hWb) ok.b).mono ?_
      rintro e w3 ⟨rfl, hb3⟩
      have hb23 := below_step hb2 hb3
      have hWc := below_step hW hb23
      go_wp2_with fail
      have hb24 := hb23
      have hWd := hWc
      refine (l19Units_any A n c xs b _ _ (h.below hWd) ok.b (by omega) ⟨hpb.1, hpb.2.1⟩).mono ?_
      rintro e w5 ⟨rfl, hb5⟩
      have hb25 := below_step hb24 hb5
      go_wp2_with fail
      refine (l02Make_any _ _ _ hub.1 (by omega) (by omega) (by omega)).mono ?_
      rintro e w6 ⟨rfl, hb6⟩
      have hb26 := below_step hb25 hb6
      have hWe := below_step hW hb26
      have k0 := (hb26.cell (World.block_lt_of_cell? _ _ f0)).trans f0
      have k1 := (hb26.cell (World.block_lt_of_cell? _ _ f1)).trans f1
      have m0 := (hb26.frozen (World.block_lt_of_cell? _ _ f0)).trans n0
      have m1 := (hb26.frozen (World.block_lt_of_cell? _ _ f1)).trans n1
      go_wp2_with fail
      have q0 : (w6.setCell ⟨w.heap.size, 0, none⟩ (.int .i64 (fracOf (unI (partsI xs) xs b) (partsI xs)).1)).cell? ⟨w.heap.size, 0, none⟩ = some (.int .i64 (fracOf (unI (partsI xs) xs b) (partsI xs)).1) := World.cell?_setCell_same _ _ _ k0
      have q1 : ((w6.setCell ⟨w.heap.size, 0, none⟩ (.int .i64 (fracOf (unI (partsI xs) xs b) (partsI xs)).1)).setCell ⟨w.heap.size, 1, none⟩ (.int .i64 (fracOf (unI (partsI xs) xs b) (partsI xs)).2)).cell? ⟨w.heap.size, 1, none⟩ = some (.int .i64 (fracOf (unI (partsI xs) xs b) (partsI xs)).2) :=
        World.cell?_setCell_same _ _ _ ((World.cell?_setCell_other _ _ _ _ (by simp)).trans k1)
      exact bodyPost_ret (v := .tuple #[.agg #[.int .i64 (fracOf (unI (partsI xs) xs b) (partsI xs)).1, .int .i64 (fracOf (unI (partsI xs) xs b) (partsI xs)).2], .int .i64 0]) (by simp [results, Try.results15, go_sem, q0, q1]) rfl ⟨by rw [H1.out, H2.out], (hWe.setCell (by simp <;> omega) _).setCell (by simp <;> omega) _⟩

theorem specLengthOfPiece_any (A : Option Addr) (n c : Nat) (xs : List (Int × Int × Int))  (w : World) (h : Sl w 3 e3 A n xs) (hn : n ≤ 1048577) :
    Calls Try.prog 12 #[.slice A n c] w fun e w' => e = .returned (.tuple #[.agg #[.int .i64 (lpVal xs).1, .int .i64 (lpVal xs).2], .int .i64 (lpCode xs)]) ∧ Below w.heap.size w w' := by
  have HC : Hid (lpCode xs = tiCode xs (true)) := rfl
  cases hz : ptOk xs
  · have HZ : Hid (ptOk xs = false) := hz
    have H1 : Hid (lpCode xs = 1) := by rw [Hid, HC.out, tiCode, hz]; rfl
    have H2 : Hid (lpVal xs = (0, 0)) := by rw [Hid, lpVal, if_neg (by rw [H1.out]; decide)]
    go_enter Try.func12, Try.ntmps12
    go_wp2_with fail
    have hW : Below w.heap.size w (w.alloc (.cells #[.int .i64 0, .int .i64 0] 31)) := (below_alloc w (.cells #[.int .i64 0, .int .i64 0] 31))
    have f0 : (w.alloc (.cells #[.int .i64 0, .int .i64 0] 31)).cell? ⟨w.heap.size, 0, none⟩ = some (.int .i64 0) := by simp [go_sem]
    have f1 : (w.alloc (.cells #[.int .i64 0, .int .i64 0] 31)).cell? ⟨w.heap.size, 1, none⟩ = some (.int .i64 0) := by simp [go_sem]
    have n0 : (w.alloc (.cells #[.int .i64 0, .int .i64 0] 31)).frozen? ⟨w.heap.size, 0, none⟩ = false := by simp [go_sem]
    have n1 : (w.alloc (.cells #[.int .i64 0, .int .i64 0] 31)).frozen? ⟨w.heap.size, 1, none⟩ = false := by simp [go_sem]
    generalize (w.alloc (.cells #[.int .i64 0, .int .i64 0] 31)) = W3 at hW f0 f1 n0 n1 ⊢
    refine (l19Ok_any A n c xs W3 (h.below hW) hn).mono ?_
    rintro e w2 ⟨rfl, hq2⟩
    have hb2 : Below W3.heap.size W3 w2 := hq2 ▸ Below.refl _ _
    rw [HZ.out]
    have hWb := below_step hW hb2
    have k0 := (hb2.cell (World.block_lt_of_cell? _ _ f0)).trans f0
    have k1 := (hb2.cell (World.block_lt_of_cell? _ _ f1)).trans f1
    have m0 := (hb2.frozen (World.block_lt_of_cell? _ _ f0)).trans n0
    have m1 := (hb2.frozen (World.block_lt_of_cell? _ _ f1)).trans n1
    go_wp2_with fail
    have q0 : (w2.setCell ⟨w.heap.size, 0, none⟩ (.int .i64 0)).cell? ⟨w.heap.size, 0, none⟩ = some (.int .i64 0) := World.cell?_setCell_same _ _ _ k0
    have q1 : ((w2.setCell ⟨w.heap.size, 0, none⟩ (.int .i64 0)).setCell ⟨w.heap.size, 1, none⟩ (.int .i64 0)).cell? ⟨w.heap.size, 1, none⟩ = some (.int .i64 0) :=
      World.cell?_setCell_same _ _ _ ((World.cell?_setCell_other _ _ _ _ (by simp)).trans k1)
    exact bodyPost_ret (v := .tuple #[.agg #[.int .i64 0, .int .i64 0], .int .i64 1]) (by simp [results, Try.results12, go_sem, q0, q1]) rfl ⟨by rw [H1.out, H2.out], (hWb.setCell (by simp <;> omega) _).setCell (by simp <;> omega) _⟩
  · have ok := ptOk_iff.1 hz
    have hok := hz
    have hbt := ok.b.bt_bd
    have HZ : Hid (ptOk xs = true) := hz
    by_cases hp : partsI xs = 0
    · have H1 : Hid (lpCode xs = 5) := by rw [Hid, HC.out, tiCode, hok]; simp [hp]
      have H2 : Hid (lpVal xs = (0, 0)) := by rw [Hid, lpVal, if_neg (by rw [H1.out]; decide)]
      have HP := Lib.hid hp
      clear hp hz hok 
      go_enter Try.func12, Try.ntmps12
      go_wp2_with fail
      have hW : Below w.heap.size w (w.alloc (.cells #[.int .i64 0, .int .i64 0] 31)) := (below_alloc w (.cells #[.int .i64 0, .int .i64 0] 31))
      have f0 : (w.alloc (.cells #[.int .i64 0, .int .i64 0] 31)).cell? ⟨w.heap.size, 0, none⟩ = some (.int .i64 0) := by simp [go_sem]
      have f1 : (w.alloc (.cells #[.int .i64 0, .int .i64 0] 31)).cell? ⟨w.heap.size, 1, none⟩ = some (.int .i64 0) := by simp [go_sem]
      have n0 : (w.alloc (.cells #[.int .i64 0, .int .i64 0] 31)).frozen? ⟨w.heap.size, 0, none⟩ = false := by simp [go_sem]
      have n1 : (w.alloc (.cells #[.int .i64 0, .int .i64 0] 31)).frozen? ⟨w.heap.size, 1, none⟩ = false := by simp [go_sem]
      generalize (w.alloc (.cells #[.int .i64 0, .int .i64 0] 31)) = W3 at hW f0 f1 n0 n1 ⊢
      refine (l19Ok_any A n c xs W3 (h.below hW) hn).mono ?_
      rintro e w2 ⟨rfl, hq2⟩
      have hb2 : Below W3.heap.size W3 w2 := hq2 ▸ Below.refl _ _
      rw [HZ.out]
      have hWb := below_step hW hb2
      go_wp2_with fail
      refine (l19Parts_any A n c xs _ (h.below hWb) ok.b).mono ?_
      rintro e w3 ⟨rfl, hb3⟩
      rw [HP.out]
      have hb23 := below_step hb2 hb3
      have hWc := below_step hW hb23
      have k0 := (hb23.cell (World.block_lt_of_cell? _ _ f0)).trans f0
      have k1 := (hb23.cell (World.block_lt_of_cell? _ _ f1)).trans f1
      have m0 := (hb23.frozen (World.block_lt_of_cell? _ _ f0)).trans n0
      have m1 := (hb23.frozen (World.block_lt_of_cell? _ _ f1)).trans n1
      go_wp2_with fail
      have q0 : (w3.setCell ⟨w.heap.size, 0, none⟩ (.int .i64 0)).cell? ⟨w.heap.size, 0, none⟩ = some (.int .i64 0) := World.cell?_setCell_same _ _ _ k0
      have q1 : ((w3.setCell ⟨w.heap.size, 0, none⟩ (.int .i64 0)).setCell ⟨w.heap.size, 1, none⟩ (.int .i64 0)).cell? ⟨w.heap.size, 1, none⟩ = some (.int .i64 0) :=
        World.cell?_setCell_same _ _ _ ((World.cell?_setCell_other _ _ _ _ (by simp)).trans k1)
      exact bodyPost_ret (v := .tuple #[.agg #[.int .i64 0, .int .i64 0], .int .i64 5]) (by simp [results, Try.results12, go_sem, q0, q1]) rfl ⟨by rw [H1.out, H2.out], (hWc.setCell (by simp <;> omega) _).setCell (by simp <;> omega) _⟩
    · have H1 : Hid (lpCode xs = 0) := by rw [Hid, HC.out, tiCode, hok]; simp [hp]
      have hpb := parts_bd ok.b hp
      have H2 : Hid (lpVal xs = fracOf (unI (partsI xs) xs (btI xs)) (partsI xs)) := by rw [Hid, lpVal, if_pos H1.out]
      have hp2 : (partsI xs == 0) = false := by simp [hp]
      have hub := unI_bd (U := partsI xs) (xs := xs) (b := (btI xs)) ok.b.2 ⟨hpb.1, hpb.2.1⟩ (by omega)
      clear hp hz hok 
      go_enter Try.func12, Try.ntmps12
      go_wp2_with fail
      have hW : Below w.heap.size w (w.alloc (.cells #[.int .i64 0, .int .i64 0] 31)) := (below_alloc w (.cells #[.int .i64 0, .int .i64 0] 31))
      have f0 : (w.alloc (.cells #[.int .i64 0, .int .i64 0] 31)).cell? ⟨w.heap.size, 0, none⟩ = some (.int .i64 0) := by simp [go_sem]
      have f1 : (w.alloc (.cells #[.int .i64 0, .int .i64 0] 31)).cell? ⟨w.heap.size, 1, none⟩ = some (.int .i64 0) := by simp [go_sem]
      have n0 : (w.alloc (.cells #[.int .i64 0, .int .i64 0] 31)).frozen? ⟨w.heap.size, 0, none⟩ = false := by simp [go_sem]
      have n1 : (w.alloc (.cells #[.int .i64 0, .int .i64 0] 31)).frozen? ⟨w.heap.size, 1, none⟩ = false := by simp [go_sem]
      generalize (w.alloc (.cells #[.int .i64 0, .int .i64 0] 31)) = W3 at hW f0 f1 n0 n1 ⊢
      refine (l19Ok_any A n c xs W3 (h.below hW) hn).mono ?_
      rintro e w2 ⟨rfl, hq2⟩
      have hb2 : Below W3.heap.size W3 w2 := hq2 ▸ Below.refl _ _
      rw [HZ.out]
      have hWb := below_step hW hb2
      go_wp2_with fail
      refine (l19Parts_any A n c xs _ (h.below hWb) ok.b).mono ?_
      rintro e w3 ⟨rfl, hb3⟩
      have hb23 := below_step hb2 hb3
      have hWc := below_step hW hb23
      go_wp2_with fail
      refine (l19Beats_any A n c xs _ (h.below hWc) ok.b).mono ?_
      rintro e w4 ⟨rfl, hb4⟩
      have hb24 := below_step hb23 hb4
      have hWd := below_step hW hb24
      go_wp2_with fail
      refine (l19Units_any A n c xs (btI xs) _ _ (h.below hWd) ok.b (by omega) ⟨hpb.1, hpb.2.1⟩).mono ?_
      rintro e w5 ⟨rfl, hb5⟩
      have hb25 := below_step hb24 hb5
      go_wp2_with fail
      refine (l02Make_any _ _ _ hub.1 (by omega) (by omega) (by omega)).mono ?_
      rintro e w6 ⟨rfl, hb6⟩
      have hb26 := below_step hb25 hb6
      have hWe := below_step hW hb26
      have k0 := (hb26.cell (World.block_lt_of_cell? _ _ f0)).trans f0
      have k1 := (hb26.cell (World.block_lt_of_cell? _ _ f1)).trans f1
      have m0 := (hb26.frozen (World.block_lt_of_cell? _ _ f0)).trans n0
      have m1 := (hb26.frozen (World.block_lt_of_cell? _ _ f1)).trans n1
      go_wp2_with fail
      have q0 : (w6.setCell ⟨w.heap.size, 0, none⟩ (.int .i64 (fracOf (unI (partsI xs) xs (btI xs)) (partsI xs)).1)).cell? ⟨w.heap.size, 0, none⟩ = some (.int .i64 (fracOf (unI (partsI xs) xs (btI xs)) (partsI xs)).1) := World.cell?_setCell_same _ _ _ k0
      have q1 : ((w6.setCell ⟨w.heap.size, 0, none⟩ (.int .i64 (fracOf (unI (partsI xs) xs (btI xs)) (partsI xs)).1)).setCell ⟨w.heap.size, 1, none⟩ (.int .i64 (fracOf (unI (partsI xs) xs (btI xs)) (partsI xs)).2)).cell? ⟨w.heap.size, 1, none⟩ = some (.int .i64 (fracOf (unI (partsI xs) xs (btI xs)) (partsI xs)).2) :=
        World.cell?_setCell_same _ _ _ ((World.cell?_setCell_other _ _ _ _ (by simp)).trans k1)
      exact bodyPost_ret (v := .tuple #[.agg #[.int .i64 (fracOf (unI (partsI xs) xs (btI xs)) (partsI xs)).1, .int .i64 (fracOf (unI (partsI xs) xs (btI xs)) (partsI xs)).2], .int .i64 0]) (by simp [results, Try.results12, go_sem, q0, q1]) rfl ⟨by rw [H1.out, H2.out], (hWe.setCell (by simp <;> omega) _).setCell (by simp <;> omega) _⟩

end Go.Proofs.Ytoehlgfjfdfnfaa
