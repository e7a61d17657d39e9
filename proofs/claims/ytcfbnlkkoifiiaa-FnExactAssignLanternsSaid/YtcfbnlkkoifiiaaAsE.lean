/-
  AssignLanterns of the program.
-/
import Derived.Test.YtcfbnlkkoifiiaaAsD
import Derived.Deep.DeepCutAuto
import Derived.Deep.OwnRows
namespace Go.Proofs.Ytcfbnlkkoifiiaa
open Go.RowKit

theorem toZ_range_succ (k : Nat) : toZ (List.range (k + 1)) = toZ (List.range k) ++ [(k : Int)] := by simp [toZ, List.range_succ]
theorem SortStable0_any (A : Option Addr) (cap : Nat) (f : Value) (w : World) :
    Calls Try.prog 20 #[.slice A 0 cap, f] w fun e w' => e = .returned (.tuple #[]) ∧ w' = w := by
  go_enter Try.func20, Try.ntmps20
  go_wp2_with fail
  refine (stable0_any A cap f _).mono ?_
  rintro e w2 ⟨rfl, rfl⟩
  go_wp2_with fail
  go_end0
  exact ⟨rfl, rfl⟩
theorem SortG_any (base : Nat) (L : Option Addr) (n c p1 : Nat) (xs : List (Int × Int × Int)) (ok : ShOk xs) (A : Option Addr) (cap : Nat) (w : World) (c1 : w.cell? ⟨p1, 0, none⟩ = some (.slice L n c)) (hL : Sl w 3 e3 L n xs) (ho : Own w base 3 1 e1 (.slice A n cap) (toZ (List.range n))) (hb : p1 < base) (hLb : 0 < n → ∀ a, L = some a → a.block < base) (hn : n ≤ 12) :
    Calls Try.prog 20 #[.slice A n cap, .func (.func 21) #[] #[.pointer (some ⟨p1, 0, none⟩)]] w fun e w' => e = .returned (.tuple #[]) ∧ Sl w' 1 e1 A n (toZ (ordL (onI xs) (List.range n))) ∧ Kp (fun k => (Value.slice A n cap).ownBlock = some k) w w' := by
  rcases ho.form with ⟨rfl, rfl, rfl, _⟩ | ⟨g, rfl⟩
  · refine (SortStable0_any _ _ _ w).mono ?_
    rintro e w' ⟨rfl, rfl⟩
    exact ⟨rfl, Sl.nil _, Kp.refl _ _⟩
  · have hg := ho.blt.1
    refine (SortStable_any base L n c p1 xs ok g cap w (by omega) c1 hL (fun h0 a ha => by have := hLb h0 a ha; omega) ho hn).mono ?_
    rintro e w' ⟨rfl, h1, h2⟩
    exact ⟨rfl, h1, ⟨h2.os, h2.tape, h2.output, h2.size, fun k hk hs => h2.block k hk fun e => hs (by rw [e]; rfl)⟩⟩
theorem idxI_lt {α : Type} {p : α → Bool} {xs : List α} (h : xs.findIdx p < xs.length) : idxI p xs = (xs.findIdx p : Int) := by
  obtain ⟨x, hx, hp⟩ := List.findIdx_lt_length.1 h
  unfold idxI
  rw [if_pos (List.any_eq_true.2 ⟨x, hx, hp⟩)]
theorem idxI_ge {α : Type} {p : α → Bool} {xs : List α} (h : ¬ xs.findIdx p < xs.length) : idxI p xs = -1 := by
  refine idxI_miss (List.any_eq_false.2 fun x hx hp => h (List.findIdx_lt_length.2 ⟨x, hx, hp⟩))
theorem infoInt : (Try.prog.info? 3).map (fun i => (i.zero, i.size, i.bytes)) = some (some (.int .i64 0), 1, 8) := by kernel_rfl
theorem asK_len1_n {xs : List (Int × Int × Int)} {n : Nat} (h : Hid (xs.length = n)) : (asK xs 0).1.length = n := by rw [asK_len1, h.out]
set_option maxHeartbeats 3200000 in
theorem implAssignLanterns_any (A : Option Addr) (n c : Nat) (xs : List (Int × Int × Int)) (w : World) (h : Sl w 3 e3 A n xs) (hn : n ≤ 1048577) :
    Calls Try.prog 8 #[.slice A n c] w (RetOwnC 2 1 e1 (alVal xs) (alCode xs) w) := by
  obtain ⟨i1, hi1, hy0, hy1, hy2⟩ := info_parts infoI64
  cases hok : shOk xs
  · have HV : Hid (alVal xs = []) := by rw [Hid, alVal, hok]; rfl
    have HC : Hid (alCode xs = 1) := by rw [Hid, alCode, hok]; rfl
    go_enter Try.func8, Try.ntmps8
    go_wp2_with fail
    refine (implValidShown_any A n c xs _ (h.alloc _) hn).mono ?_
    rintro e w2 ⟨rfl, hb⟩
    have hb2 := (below_alloc w _).trans (hb.mono (below_alloc _ _).size)
    go_wp2_with fail
    go_ret2
    rw [HV.out, HC.out]
    exact RetOwnC.none_ hb2
  · have ok := shOk_iff.1 hok
    have HXL : Hid (xs.length = n) := h.1
    have hn12 : n ≤ 12 := by rw [← h.1]; exact ok.len
    have HV : Hid (alVal xs = (asK xs n).1) := by rw [Hid, alVal, hok, if_pos rfl, HXL.out]
    have HC : Hid (alCode xs = 0) := by rw [Hid, alCode, hok]; rfl
    have hmk := fun w => run_make_row' (P := Try.prog) 24 2 (.int .i64 0) 8 Try.underlying24 infoI64 rfl .i64 .i64 n (by omega) (by omega) w
    go_enter Try.func8, Try.ntmps8
    go_wp2_with fail
    refine (implValidShown_any A n c xs _ (h.alloc _) hn).mono ?_
    rintro e w2 ⟨rfl, hb⟩
    have c1 : w2.cell? ⟨w.heap.size, 0, none⟩ = some (.slice A n c) := (hb.cell (by simp)).trans (newcell w #[.slice A n c] _ _ rfl 0)
    have hb2 := (below_alloc w _).trans (hb.mono (below_alloc _ _).size)
    have l1 : w.heap.size < w2.heap.size := World.block_lt_of_cell? _ _ c1
    clear hb
    go_upto_region 3 with fail
    go_cut [4, 5, 6] (fun v4 v5 v6 wx => ∃ g : Nat, v5 = .slice (some ⟨g, 0, none⟩) n n ∧ Own wx w2.heap.size 3 1 e1 v4 (toZ (List.range 0)) ∧ Own wx w2.heap.size 2 1 e1 (.slice (some ⟨g, 0, none⟩) n n) (asK xs 0).1 ∧ Own wx w2.heap.size 2 1 e1 v6 (asK xs 0).2 ∧ v4.ownBlock ≠ some g ∧ v6.ownBlock ≠ some g ∧ (∀ k, v4.ownBlock = some k → v6.ownBlock ≠ some k) ∧ Below w2.heap.size w2 wx)
    case first =>
      go_region
      · (try go_wp2_with fail)
        go_meet
        have oO : Own (w2.alloc (.cells #[] 3)) w2.heap.size 3 1 e1 (.slice (some ⟨w2.heap.size, 0, none⟩) 0 0) (toZ (List.range 0)) := Own.lit w2 _ _ [] 0 (by simp <;> omega) rfl (by simp [maxLen]) e1_len rfl
        have oM : Own ((w2.alloc (.cells #[] 3)).alloc (.cells (madeCells #[.int .i64 0] n) 2)) w2.heap.size 2 1 e1 (.slice (some ⟨(w2.alloc (.cells #[] 3)).heap.size, 0, none⟩) n n) (asK xs 0).1 := Own.lit (w2.alloc (.cells #[] 3)) _ _ _ n (by simp <;> omega) (asK_len1_n HXL) (by simp [maxLen]; omega) e1_len (by rw [asK_zero, HXL.out]; simpa [e1] using madeK e1_len (by omega) (0 : Int) n)
        rw [show (w2.alloc (.cells #[] 3)).heap.size = w2.heap.size + 1 from by simp] at oM
        have oF : Own (((w2.alloc (.cells #[] 3)).alloc (.cells (madeCells #[.int .i64 0] n) 2)).alloc (.cells #[] 2)) w2.heap.size 2 1 e1 (.slice (some ⟨((w2.alloc (.cells #[] 3)).alloc (.cells (madeCells #[.int .i64 0] n) 2)).heap.size, 0, none⟩) 0 0) (asK xs 0).2 := Own.lit ((w2.alloc (.cells #[] 3)).alloc (.cells (madeCells #[.int .i64 0] n) 2)) _ _ [] 0 (by simp <;> omega) rfl (by simp [maxLen]) e1_len rfl
        rw [show ((w2.alloc (.cells #[] 3)).alloc (.cells (madeCells #[.int .i64 0] n) 2)).heap.size = w2.heap.size + 2 from by simp] at oF
        exact ⟨w2.heap.size + 1, rfl, ((oO.alloc _).alloc _).drew, (oM.alloc _).drew, (oF).drew, (by simp [Value.ownBlock] <;> omega), (by simp [Value.ownBlock] <;> omega), (by simp [Value.ownBlock] <;> omega), (((below_alloc _ _).alloc (by simp <;> omega) _).alloc (by simp <;> omega) _).drew⟩
      · (try go_wp2_with fail)
        go_meet
        have oO : Own (w2.alloc (.cells #[] 3)) w2.heap.size 3 1 e1 (.slice (some ⟨w2.heap.size, 0, none⟩) 0 0) (toZ (List.range 0)) := Own.lit w2 _ _ [] 0 (by simp <;> omega) rfl (by simp [maxLen]) e1_len rfl
        have oF : Own ((w2.alloc (.cells #[] 3)).alloc (.cells #[] 2)) w2.heap.size 2 1 e1 (.slice (some ⟨(w2.alloc (.cells #[] 3)).heap.size, 0, none⟩) 0 0) (asK xs 0).2 := Own.lit (w2.alloc (.cells #[] 3)) _ _ [] 0 (by simp <;> omega) rfl (by simp [maxLen]) e1_len rfl
        rw [show (w2.alloc (.cells #[] 3)).heap.size = w2.heap.size + 1 from by simp] at oF
        have oM : Own (((w2.alloc (.cells #[] 3)).alloc (.cells #[] 2)).alloc (.cells (madeCells #[.int .i64 0] n) 2)) w2.heap.size 2 1 e1 (.slice (some ⟨((w2.alloc (.cells #[] 3)).alloc (.cells #[] 2)).heap.size, 0, none⟩) n n) (asK xs 0).1 := Own.lit ((w2.alloc (.cells #[] 3)).alloc (.cells #[] 2)) _ _ _ n (by simp <;> omega) (asK_len1_n HXL) (by simp [maxLen]; omega) e1_len (by rw [asK_zero, HXL.out]; simpa [e1] using madeK e1_len (by omega) (0 : Int) n)
        rw [show ((w2.alloc (.cells #[] 3)).alloc (.cells #[] 2)).heap.size = w2.heap.size + 2 from by simp] at oM
        exact ⟨w2.heap.size + 2, rfl, ((oO.alloc _).alloc _).drew, (oM).drew, (oF.alloc _).drew, (by simp [Value.ownBlock] <;> omega), (by simp [Value.ownBlock] <;> omega), (by simp [Value.ownBlock] <;> omega), (((below_alloc _ _).alloc (by simp <;> omega) _).alloc (by simp <;> omega) _).drew⟩
      · (try go_wp2_with fail)
        go_meet
        have oM : Own (w2.alloc (.cells (madeCells #[.int .i64 0] n) 2)) w2.heap.size 2 1 e1 (.slice (some ⟨w2.heap.size, 0, none⟩) n n) (asK xs 0).1 := Own.lit w2 _ _ _ n (by simp <;> omega) (asK_len1_n HXL) (by simp [maxLen]; omega) e1_len (by rw [asK_zero, HXL.out]; simpa [e1] using madeK e1_len (by omega) (0 : Int) n)
        have oO : Own ((w2.alloc (.cells (madeCells #[.int .i64 0] n) 2)).alloc (.cells #[] 3)) w2.heap.size 3 1 e1 (.slice (some ⟨(w2.alloc (.cells (madeCells #[.int .i64 0] n) 2)).heap.size, 0, none⟩) 0 0) (toZ (List.range 0)) := Own.lit (w2.alloc (.cells (madeCells #[.int .i64 0] n) 2)) _ _ [] 0 (by simp <;> omega) rfl (by simp [maxLen]) e1_len rfl
        rw [show (w2.alloc (.cells (madeCells #[.int .i64 0] n) 2)).heap.size = w2.heap.size + 1 from by simp] at oO
        have oF : Own (((w2.alloc (.cells (madeCells #[.int .i64 0] n) 2)).alloc (.cells #[] 3)).alloc (.cells #[] 2)) w2.heap.size 2 1 e1 (.slice (some ⟨((w2.alloc (.cells (madeCells #[.int .i64 0] n) 2)).alloc (.cells #[] 3)).heap.size, 0, none⟩) 0 0) (asK xs 0).2 := Own.lit ((w2.alloc (.cells (madeCells #[.int .i64 0] n) 2)).alloc (.cells #[] 3)) _ _ [] 0 (by simp <;> omega) rfl (by simp [maxLen]) e1_len rfl
        rw [show ((w2.alloc (.cells (madeCells #[.int .i64 0] n) 2)).alloc (.cells #[] 3)).heap.size = w2.heap.size + 2 from by simp] at oF
        exact ⟨w2.heap.size, rfl, (oO.alloc _).drew, ((oM.alloc _).alloc _).drew, (oF).drew, (by simp [Value.ownBlock] <;> omega), (by simp [Value.ownBlock] <;> omega), (by simp [Value.ownBlock] <;> omega), (((below_alloc _ _).alloc (by simp <;> omega) _).alloc (by simp <;> omega) _).drew⟩
      · (try go_wp2_with fail)
        go_meet
        have oM : Own (w2.alloc (.cells (madeCells #[.int .i64 0] n) 2)) w2.heap.size 2 1 e1 (.slice (some ⟨w2.heap.size, 0, none⟩) n n) (asK xs 0).1 := Own.lit w2 _ _ _ n (by simp <;> omega) (asK_len1_n HXL) (by simp [maxLen]; omega) e1_len (by rw [asK_zero, HXL.out]; simpa [e1] using madeK e1_len (by omega) (0 : Int) n)
        have oF : Own ((w2.alloc (.cells (madeCells #[.int .i64 0] n) 2)).alloc (.cells #[] 2)) w2.heap.size 2 1 e1 (.slice (some ⟨(w2.alloc (.cells (madeCells #[.int .i64 0] n) 2)).heap.size, 0, none⟩) 0 0) (asK xs 0).2 := Own.lit (w2.alloc (.cells (madeCells #[.int .i64 0] n) 2)) _ _ [] 0 (by simp <;> omega) rfl (by simp [maxLen]) e1_len rfl
        rw [show (w2.alloc (.cells (madeCells #[.int .i64 0] n) 2)).heap.size = w2.heap.size + 1 from by simp] at oF
        have oO : Own (((w2.alloc (.cells (madeCells #[.int .i64 0] n) 2)).alloc (.cells #[] 2)).alloc (.cells #[] 3)) w2.heap.size 3 1 e1 (.slice (some ⟨((w2.alloc (.cells (madeCells #[.int .i64 0] n) 2)).alloc (.cells #[] 2)).heap.size, 0, none⟩) 0 0) (toZ (List.range 0)) := Own.lit ((w2.alloc (.cells (madeCells #[.int .i64 0] n) 2)).alloc (.cells #[] 2)) _ _ [] 0 (by simp <;> omega) rfl (by simp [maxLen]) e1_len rfl
        rw [show ((w2.alloc (.cells (madeCells #[.int .i64 0] n) 2)).alloc (.cells #[] 2)).heap.size = w2.heap.size + 2 from by simp] at oO
        exact ⟨w2.heap.size, rfl, (oO).drew, ((oM.alloc _).alloc _).drew, (oF.alloc _).drew, (by simp [Value.ownBlock] <;> omega), (by simp [Value.ownBlock] <;> omega), (by simp [Value.ownBlock] <;> omega), (((below_alloc _ _).alloc (by simp <;> omega) _).alloc (by simp <;> omega) _).drew⟩
      · (try go_wp2_with fail)
        go_meet
        have oF : Own (w2.alloc (.cells #[] 2)) w2.heap.size 2 1 e1 (.slice (some ⟨w2.heap.size, 0, none⟩) 0 0) (asK xs 0).2 := Own.lit w2 _ _ [] 0 (by simp <;> omega) rfl (by simp [maxLen]) e1_len rfl
        have oO : Own ((w2.alloc (.cells #[] 2)).alloc (.cells #[] 3)) w2.heap.size 3 1 e1 (.slice (some ⟨(w2.alloc (.cells #[] 2)).heap.size, 0, none⟩) 0 0) (toZ (List.range 0)) := Own.lit (w2.alloc (.cells #[] 2)) _ _ [] 0 (by simp <;> omega) rfl (by simp [maxLen]) e1_len rfl
        rw [show (w2.alloc (.cells #[] 2)).heap.size = w2.heap.size + 1 from by simp] at oO
        have oM : Own (((w2.alloc (.cells #[] 2)).alloc (.cells #[] 3)).alloc (.cells (madeCells #[.int .i64 0] n) 2)) w2.heap.size 2 1 e1 (.slice (some ⟨((w2.alloc (.cells #[] 2)).alloc (.cells #[] 3)).heap.size, 0, none⟩) n n) (asK xs 0).1 := Own.lit ((w2.alloc (.cells #[] 2)).alloc (.cells #[] 3)) _ _ _ n (by simp <;> omega) (asK_len1_n HXL) (by simp [maxLen]; omega) e1_len (by rw [asK_zero, HXL.out]; simpa [e1] using madeK e1_len (by omega) (0 : Int) n)
        rw [show ((w2.alloc (.cells #[] 2)).alloc (.cells #[] 3)).heap.size = w2.heap.size + 2 from by simp] at oM
        exact ⟨w2.heap.size + 2, rfl, (oO.alloc _).drew, (oM).drew, ((oF.alloc _).alloc _).drew, (by simp [Value.ownBlock] <;> omega), (by simp [Value.ownBlock] <;> omega), (by simp [Value.ownBlock] <;> omega), (((below_alloc _ _).alloc (by simp <;> omega) _).alloc (by simp <;> omega) _).drew⟩
      · (try go_wp2_with fail)
        go_meet
        have oF : Own (w2.alloc (.cells #[] 2)) w2.heap.size 2 1 e1 (.slice (some ⟨w2.heap.size, 0, none⟩) 0 0) (asK xs 0).2 := Own.lit w2 _ _ [] 0 (by simp <;> omega) rfl (by simp [maxLen]) e1_len rfl
        have oM : Own ((w2.alloc (.cells #[] 2)).alloc (.cells (madeCells #[.int .i64 0] n) 2)) w2.heap.size 2 1 e1 (.slice (some ⟨(w2.alloc (.cells #[] 2)).heap.size, 0, none⟩) n n) (asK xs 0).1 := Own.lit (w2.alloc (.cells #[] 2)) _ _ _ n (by simp <;> omega) (asK_len1_n HXL) (by simp [maxLen]; omega) e1_len (by rw [asK_zero, HXL.out]; simpa [e1] using madeK e1_len (by omega) (0 : Int) n)
        rw [show (w2.alloc (.cells #[] 2)).heap.size = w2.heap.size + 1 from by simp] at oM
        have oO : Own (((w2.alloc (.cells #[] 2)).alloc (.cells (madeCells #[.int .i64 0] n) 2)).alloc (.cells #[] 3)) w2.heap.size 3 1 e1 (.slice (some ⟨((w2.alloc (.cells #[] 2)).alloc (.cells (madeCells #[.int .i64 0] n) 2)).heap.size, 0, none⟩) 0 0) (toZ (List.range 0)) := Own.lit ((w2.alloc (.cells #[] 2)).alloc (.cells (madeCells #[.int .i64 0] n) 2)) _ _ [] 0 (by simp <;> omega) rfl (by simp [maxLen]) e1_len rfl
        rw [show ((w2.alloc (.cells #[] 2)).alloc (.cells (madeCells #[.int .i64 0] n) 2)).heap.size = w2.heap.size + 2 from by simp] at oO
        exact ⟨w2.heap.size + 1, rfl, (oO).drew, (oM.alloc _).drew, ((oF.alloc _).alloc _).drew, (by simp [Value.ownBlock] <;> omega), (by simp [Value.ownBlock] <;> omega), (by simp [Value.ownBlock] <;> omega), (((below_alloc _ _).alloc (by simp <;> omega) _).alloc (by simp <;> omega) _).drew⟩
    case rest =>
      obtain ⟨g, rfl, ho4, ho5, ho6, a45, a65, a46, hbx⟩ := hcut
      clear hmk
      obtain ⟨i0, hi0, hz0, hz1, hz2⟩ := info_parts infoInt
      have c1x := (hbx.cell (p := ⟨w.heap.size, 0, none⟩) l1).trans c1
      obtain ⟨A6, c6, hv6, _, _, hu6⟩ := ho6.val
      change _ = Value.slice A6 0 c6 at hv6
      subst hv6
      clear hu6
      have A45 := Lib.hid a45
      have A65 := Lib.hid a65
      have A46 := Lib.hid a46
      clear a45 a65 a46 c1
      go_wp2_with fail
      go_loopw [4, 21] (fun v4 i wr => ∃ k : Nat, k ≤ n ∧ i = .int .i64 k ∧ Own wr w2.heap.size 3 1 e1 v4 (toZ (List.range k)) ∧ Own wr w2.heap.size 2 1 e1 (.slice (some ⟨g, 0, none⟩) n n) (asK xs 0).1 ∧ Own wr w2.heap.size 2 1 e1 (.slice A6 0 c6) (asK xs 0).2 ∧ Hid (v4.ownBlock ≠ some g) ∧ Hid (∀ k, v4.ownBlock = some k → (Value.slice A6 0 c6).ownBlock ≠ some k) ∧ Below w2.heap.size w2 wr) (fun _ i _ => n - (intOf i).toNat)
      case atStart => exact ⟨0, by omega, rfl, ho4, ho5, ho6, A45, A46, hbx⟩
      case round =>
        obtain ⟨k, hk, rfl, h4, h5, h6, B45, B46, hbr⟩ := hrel
        have c1r := (hbr.cell (p := ⟨w.heap.size, 0, none⟩) l1).trans ((hbx.cell (p := ⟨w.heap.size, 0, none⟩) l1).symm.trans c1x)
        by_cases hlt : k < n
        · have HKL : Hid ((toZ (List.range k)).length = k) := by rw [Hid, toZ_len]; simp
          go_wp2_with (at_builtin; refine wpList_app1x rfl (.tmp 24) (.tmp 26) 43 3 rfl w2.heap.size i0 _ 1 8 Try.underlying43 hi0 hz0 hz1 hz2 rfl (by decide) e1 e1_len e1_one _ (toZ (List.range k)) rfl (h4.alloc _) (k : Int) _ _ rfl (newcell _ _ _ _ rfl) (by rw [HKL.out]; omega) (by rw [HKL.out]; unfold maxLen; omega) (Nat.le_trans hbr.size (below_alloc _ _).size) ?_; intro v9 w9 ho9 hb9 hg9 hv9)
          have HO9 := Lib.hid ho9
          have HV9 := Lib.hid hv9
          clear ho9 hv9
          go_roundw
          case rel =>
            refine ⟨k + 1, by omega, by go_num, by rw [toZ_range_succ]; exact HO9.out, (h5.alloc _).grown hg9 (.inr fun e => B45.out e.symm), (h6.alloc _).grown hg9 ?_, ?_, ?_, (hbr.alloc hbr.size _).trans hb9⟩
            · cases hq : (Value.slice A6 0 c6).ownBlock with
              | none => exact .inl rfl
              | some q => exact .inr fun e => B46.out q e.symm hq
            · intro e
              rcases HV9.out with h | h
              · exact B45.out (h.symm.trans e)
              · have := h5.blt.2
                rw [h] at e
                injection e with e
                rw [World.size_alloc] at e
                omega
            · intro q e
              rcases HV9.out with h | h
              · exact B46.out q (h.symm.trans e)
              · intro e2
                have := (h6.lt q e2).2
                rw [h] at e
                injection e with e
                rw [World.size_alloc] at e
                omega
          case measure => simp [intOf]; omega
        · obtain rfl : k = n := by omega
          obtain ⟨A4, c4, hv4, _, _, hu4⟩ := h4.val
          rw [toZ_len, List.length_range] at hv4
          subst hv4
          clear hu4
          go_wp2_with fail
          refine (SortG_any w2.heap.size A k c w.heap.size xs ok A4 c4 _ c1r ((h.below hb2).below (hbr.mono (Nat.le_refl _))) h4 l1 (fun h0 a ha => by have := (h.below hb2).lt h0 a ha; omega) hn12).mono ?_
          rintro e w3 ⟨rfl, hord, hk3⟩
          have h53 := h5.kp hk3 (fun q hq e => B45.out (e.trans hq.symm))
          have h63 := h6.kp hk3 (fun q hq e => B46.out q e hq)
          have hb3 := hbr.trans (hk3.below (B := w2.heap.size) (fun q hq => (h4.lt q hq).1) hbr.size)
          have HA4 := Lib.hid h4.lt
          have C1 : Hid (w2.cell? ⟨w.heap.size, 0, none⟩ = some (.slice A k c)) := (hbx.cell (p := ⟨w.heap.size, 0, none⟩) l1).symm.trans c1x
          have HL2 := Lib.hid (h.below hb2)
          clear h4 h5 h6 c1r c1x hbr hk3 ho4 ho5 ho6 hbx
          go_wp2_with fail
          go_loopw [6, 34] (fun v6 i wx => ∃ j : Nat, j ≤ k ∧ i = .int .i64 j ∧ Own wx w2.heap.size 2 1 e1 v6 (asK xs j).2 ∧ Own wx w2.heap.size 2 1 e1 (.slice (some ⟨g, 0, none⟩) k k) (asK xs j).1 ∧ Sl wx 1 e1 A4 k (toZ (ordL (onI xs) (List.range k))) ∧ Hid (v6.ownBlock ≠ some g) ∧ Hid (∀ q, (Value.slice A4 k c4).ownBlock = some q → v6.ownBlock ≠ some q) ∧ Below w2.heap.size w2 wx) (fun _ i _ => k - (intOf i).toNat)
          case atStart => exact ⟨0, by omega, rfl, h63, h53, hord, A65, B46, hb3⟩
          case round =>
            obtain ⟨j, hj, rfl, hF, hO, hS, D65, D46, hbj⟩ := hrel
            by_cases hjk : j < k
            · obtain ⟨bo, offo, x, rfl, hx, _, d0⟩ := hS.at1 hjk
              obtain ⟨i, hi, rfl⟩ : ∃ i, (ordL (onI xs) (List.range k))[j]? = some i ∧ x = (i : Int) := by
                rw [toZ, List.getElem?_map] at hx
                cases hq : (ordL (onI xs) (List.range k))[j]? with
                | none => rw [hq] at hx; cases hx
                | some i => rw [hq] at hx; injection hx with hx; exact ⟨i, rfl, hx.symm⟩
              have hik : i < k := List.mem_range.1 (ordL_mem (List.mem_of_getElem? hi))
              have HST : Hid (asK xs (j + 1) = asF xs (asK xs j) i) := asK_step (by rw [HXL.out]; exact hi)
              clear hx hi
              have hm12 : (asK xs j).2.length ≤ 12 := by have := asK_len2 xs j; omega
              generalize asK xs j = st at HST hm12 hF hO
              obtain ⟨A6', c6', hv6, _, _, hu6⟩ := hF.val
              subst hv6
              clear hu6
              have c1j := (hbj.cell (p := ⟨w.heap.size, 0, none⟩) l1).trans C1.out
              have hLj := HL2.out.below hbj
              go_wp2_with fail
              obtain ⟨bA, offA, x, hA, hxi, _, _⟩ := hLj.at3 hik
              have HON : Hid (onI xs i = x.1) := onI_get hxi
              have HOFF : Hid (offI xs i = x.2.1) := offI_get hxi
              have HXI := Lib.hid hxi
              clear hxi
              subst hA
              refine (IndexFuncI_any (some ⟨bA, offA, none⟩) k c w.heap.size wr.heap.size xs i hik A6' _ c6' st.2 (wr.alloc (.cells #[.int .i64 (i : Int)] 3)) (cell_al c1j _) (newcell wr #[.int .i64 (i : Int)] _ _ rfl 0) (hLj.alloc _) ((hF.sl e1_len).alloc _) hm12).mono ?_
              rintro e w4 ⟨rfl, hw4⟩
              have hb4 : Below w2.heap.size w2 w4 := by rw [hw4]; exact hbj.alloc hbj.size _
              have c14 : w4.cell? ⟨w.heap.size, 0, none⟩ = some (.slice (some ⟨bA, offA, none⟩) k c) := by rw [hw4]; exact cell_al c1j _
              have ci4 : w4.cell? ⟨wr.heap.size, 0, none⟩ = some (.int .i64 (i : Int)) := by rw [hw4]; exact newcell wr #[.int .i64 (i : Int)] _ _ rfl 0
              have hL4 : Sl w4 3 e3 (some ⟨bA, offA, none⟩) k xs := by rw [hw4]; exact hLj.alloc _
              have hF4 : Own w4 w2.heap.size 2 1 e1 (.slice A6' st.2.length c6') st.2 := by rw [hw4]; exact hF.alloc _
              have hO4 : Own w4 w2.heap.size 2 1 e1 (.slice (some ⟨g, 0, none⟩) k k) st.1 := by rw [hw4]; exact hO.alloc _
              have hS4 : Sl w4 1 e1 (some ⟨bo, offo, none⟩) k (toZ (ordL (onI xs) (List.range k))) := by rw [hw4]; exact hS.alloc _
              have l4 : wr.heap.size < w4.heap.size := by rw [hw4]; simp
              have HL6 : Hid (∀ q, (Value.slice A6' st.2.length c6').ownBlock = some q → q < wr.heap.size) := fun q hq => (hF.lt q hq).2
              clear hw4 hF hO hS hLj c1j d0
              have HO1 : Hid (st.1.length = k) := by
                obtain ⟨_, _, hv, _⟩ := hO4.val
                injection hv with _ hv _
                exact hv.symm
              obtain ⟨z, hz⟩ : ∃ z, st.1[i]? = some z := ⟨_, List.getElem?_eq_getElem (by rw [HO1.out]; exact hik)⟩
              have HZ := Lib.hid hz
              clear hz
              have g3 : (0 : Int) ≤ (i : Int) := by omega
              have g4 : (i : Int) < (k : Int) := by omega
              have hst : asF xs st i = (st.1.set i (frK st.2 (onI xs i) : Int), (if frK st.2 (onI xs i) = st.2.length then st.2 ++ [0] else st.2).set (frK st.2 (onI xs i)) (offI xs i)) := rfl
              by_cases hq : frK st.2 (onI xs i) < st.2.length
              · have hI : idxI (fun t => decide (t ≤ onI xs i)) st.2 = (frK st.2 (onI xs i) : Int) := idxI_lt hq
                rw [if_neg (by omega)] at hst
                rw [hI]
                generalize frK st.2 (onI xs i) = q at hq hI hst ⊢
                have HSF := Lib.hid hst
                clear hst hI
                obtain ⟨g6, rfl⟩ : ∃ g6, A6' = some ⟨g6, 0, none⟩ := by
                  rcases hF4.form with ⟨_, h, _⟩ | h
                  · omega
                  · exact h
                obtain ⟨y, hy⟩ : ∃ y, st.2[q]? = some y := ⟨_, List.getElem?_eq_getElem hq⟩
                have HY := Lib.hid hy
                clear hy
                have g1 : (0 : Int) ≤ (q : Int) := by omega
                have g2 : (q : Int) < (st.2.length : Int) := by omega
                have hne : g6 ≠ g := fun e => D65.out (by rw [e]; rfl)
                have hne2 : g ≠ g6 := fun e => hne e.symm
                have hne3 : wr.heap.size ≠ g6 := fun e => by have := HL6.out g6 rfl; omega

                obtain ⟨d1, d2, d3⟩ := hL4.get3 HXI.out
                rw [← HOFF.out] at d2
                have d6 := hF4.cell e1_len HY.out (j := 0) (u := .int .i64 y) rfl
                have d7 := hO4.cell e1_len HZ.out (j := 0) (u := .int .i64 z) rfl
                simp only [Nat.mul_one, Nat.add_zero] at d6 d7
                have f6 := hF4.free q
                have f7 := hO4.free i
                go_wp2_with fail
                go_region
                clear d1 d2 d3 d6 d7 f6 f7
                have HSX : Hid (asK xs (j + 1) = (st.1.set i (q : Int), st.2.set q (offI xs i))) := HST.out.trans HSF.out
                go_wp2_with fail
                go_roundw
                case rel =>
                  refine ⟨j + 1, by omega, by go_num, ?_, ?_, ?_, ?_, ?_, ?_⟩
                  · rw [HSX.out]
                    exact ((hF4.set1 q (offI xs i)).setc ⟨g, i, none⟩ _ (fun q hq e => hne2 (by injection hq with hq; exact e.symm.trans hq.symm))).drew
                  · rw [HSX.out]
                    exact ((hO4.setc ⟨g6, q, none⟩ _ (fun q hq e => hne2 (by injection hq with hq; exact hq.trans e))).set1 i (q : Int)).drew
                  · exact ((hS4.setCell (p := ⟨g6, q, none⟩) (fun a ha e => D46.out bo rfl (congrArg some (show g6 = bo from by injection ha with ha; rw [← ha] at e; exact e.symm))) _).setCell (p := ⟨g, i, none⟩) (fun a ha e => B45.out (congrArg some (show bo = g from by injection ha with ha; rw [← ha] at e; exact e))) _).drew
                  · exact D65.out
                  · exact D46.out
                  · exact ((hb4.setCell (by exact hF4.blt.1) _).setCell (by exact hO4.blt.1) _).drew
                case measure => simp [intOf]; omega
              · have hqe : frK st.2 (onI xs i) = st.2.length := by have := frK_le st.2 (onI xs i); omega
                have hI : idxI (fun t => decide (t ≤ onI xs i)) st.2 = -1 := idxI_ge hq
                rw [if_pos hqe, hqe] at hst
                rw [hI]
                have HSF := Lib.hid hst
                clear hst hI hq hqe
                go_wp2_with (at_builtin; refine wpList_app1x rfl (.tmp 45) (.tmp 46) 24 2 rfl w2.heap.size i1 _ 1 8 Try.underlying24 hi1 hy0 hy1 hy2 rfl (by decide) e1 e1_len e1_one _ st.2 rfl (hF4.alloc _) (0 : Int) _ _ rfl (newcell _ _ _ _ rfl) (by omega) (by unfold maxLen; omega) (Nat.le_trans hb4.size (below_alloc _ _).size) ?_; intro v9 w9 hF9 hb9' hg9 hv9)
                have hb9 := (hb4.alloc hb4.size _).trans hb9'
                have hS9 := (hS4.alloc _).grown hg9 (fun a ha e => D46.out a.block (by injection ha with ha; rw [← ha]; rfl) e)
                have hO9 := (hO4.alloc _).grown hg9 (.inr fun e => D65.out e.symm)
                have hL9 := HL2.out.below hb9
                have c19 : w9.cell? ⟨w.heap.size, 0, none⟩ = some (.slice (some ⟨bA, offA, none⟩) k c) := (hb9.cell (p := ⟨w.heap.size, 0, none⟩) l1).trans C1.out
                have ci9 : w9.cell? ⟨wr.heap.size, 0, none⟩ = some (.int .i64 (i : Int)) := (World.cell?_of_block (hg9.block wr.heap.size (by rw [World.size_alloc]; omega) (fun e => by have := HL6.out wr.heap.size e.symm; omega))).trans (cell_al ci4 _)
                obtain ⟨A9, c9, hv, _, _, _⟩ := hF9.val
                rw [List.length_append, List.length_singleton] at hv
                subst hv
                obtain ⟨g6, rfl⟩ : ∃ g6, A9 = some ⟨g6, 0, none⟩ := by
                  rcases hF9.form with ⟨_, h, _⟩ | h
                  · omega
                  · exact h
                have E65 : Hid ((Value.slice (some ⟨g6, 0, none⟩) (st.2.length + 1) c9).ownBlock ≠ some g) := by
                  intro e
                  rcases hv9 with h | h
                  · exact D65.out (h.symm.trans e)
                  · rw [h] at e
                    injection e with e
                    have := hO4.blt.2
                    rw [World.size_alloc] at e
                    omega
                have E46 : Hid (∀ q, (Value.slice (some ⟨bo, offo, none⟩) k c4).ownBlock = some q → (Value.slice (some ⟨g6, 0, none⟩) (st.2.length + 1) c9).ownBlock ≠ some q) := by
                  intro q hq e
                  rcases hv9 with h | h
                  · exact D46.out q hq (h.symm.trans e)
                  · rw [h] at e
                    injection e with e
                    have := hS4.lt (by omega) _ rfl
                    injection hq with hq
                    rw [World.size_alloc] at e
                    have h6 : bo = q := hq
                    have h7 : bo < w4.heap.size := this
                    omega
                have hne3 : wr.heap.size ≠ g6 := by
                  intro e
                  rcases hv9 with h | h
                  · have := HL6.out g6 h.symm
                    omega
                  · injection h with h
                    rw [World.size_alloc] at h
                    have h6 : g6 = w4.heap.size + 1 := h
                    omega
                have hne : g6 ≠ g := fun e => E65.out (congrArg some e)
                have hne2 : g ≠ g6 := fun e => hne e.symm
                clear hb9' hg9 hv9 hL4 hF4 hO4 hS4 c14 ci4 hb4
                obtain ⟨y, hy⟩ : ∃ y, (st.2 ++ [(0 : Int)])[st.2.length]? = some y := ⟨_, List.getElem?_eq_getElem (by simp)⟩
                have HY := Lib.hid hy
                clear hy
                have g1 : (0 : Int) ≤ (st.2.length : Int) := by omega
                have g2 : (st.2.length : Int) < ((st.2.length + 1 : Nat) : Int) := by omega
                obtain ⟨d1, d2, d3⟩ := hL9.get3 HXI.out
                rw [← HOFF.out] at d2
                have d6 := hF9.cell e1_len HY.out (j := 0) (u := .int .i64 y) rfl
                have d7 := hO9.cell e1_len HZ.out (j := 0) (u := .int .i64 z) rfl
                simp only [Nat.mul_one, Nat.add_zero] at d6 d7
                have f6 := hF9.free st.2.length
                have f7 := hO9.free i
                go_wp2_with fail
                go_region
                clear d1 d2 d3 d6 d7 f6 f7
                have HSX : Hid (asK xs (j + 1) = (st.1.set i (st.2.length : Int), (st.2 ++ [0]).set st.2.length (offI xs i))) := HST.out.trans HSF.out
                go_wp2_with fail
                go_roundw
                case rel =>
                  refine ⟨j + 1, by omega, by go_num, ?_, ?_, ?_, ?_, ?_, ?_⟩
                  · rw [HSX.out]
                    exact ((hF9.set1 st.2.length (offI xs i)).setc ⟨g, i, none⟩ _ (fun q hq e => hne2 (by injection hq with hq; exact e.symm.trans hq.symm))).drew
                  · rw [HSX.out]
                    exact ((hO9.setc ⟨g6, st.2.length, none⟩ _ (fun q hq e => hne2 (by injection hq with hq; exact hq.trans e))).set1 i (st.2.length : Int)).drew
                  · exact ((hS9.setCell (p := ⟨g6, st.2.length, none⟩) (fun a ha e => E46.out bo rfl (congrArg some (show g6 = bo from by injection ha with ha; rw [← ha] at e; exact e.symm))) _).setCell (p := ⟨g, i, none⟩) (fun a ha e => B45.out (congrArg some (show bo = g from by injection ha with ha; rw [← ha] at e; exact e))) _).drew
                  · exact E65.out
                  · exact E46.out
                  · exact ((hb9.setCell (by exact hF9.blt.1) _).setCell (by exact hO9.blt.1) _).drew
                case measure => simp [intOf]; omega
            · obtain rfl : j = k := by omega
              go_wp2_with fail
              go_ret2
              rw [HV.out, HC.out]
              exact RetOwnC.mk (hO.mono hb2.size) (hb2.trans (hbj.mono hb2.size))

end Go.Proofs.Ytcfbnlkkoifiiaa
