/-
  Contracts of the functions on frames: the share of the light, even frames.
-/
import Derived.Test.YtkjdinhbfoghnaaFrF
import Derived.Test.YtkjdinhbfoghnaaBFrac
namespace Go.Proofs.Ytkjdinhbfoghnaa
open Go.RowKit

def litK (xs : List (Int × Int)) (k : Nat) : Int := sumI (fun p => p.1) (xs.take k)
theorem litK_step {xs : List (Int × Int)} {k : Nat} {x : Int × Int} (h : xs[k]? = some x) : litK xs (k + 1) = litK xs k + x.1 := sumI_step _ h
theorem FrOk.lit_bd {xs : List (Int × Int)} (h : FrOk xs) (k : Nat) : 0 ≤ litK xs k ∧ litK xs k ≤ 600000 := by
  have h1 := sumI_le (fun p : Int × Int => p.1) 10000 (xs.take k) (fun x hx => by have := (h.take k).one x hx; omega)
  have h2 := sumI_ge (fun p : Int × Int => p.1) 0 (xs.take k) (fun x hx => by have := (h.take k).one x hx; omega)
  have := (h.take k).len
  unfold litK
  omega
theorem FrOk.tot_pos {xs : List (Int × Int)} (h : FrOk xs) (hne : 0 < xs.length) : 0 < tot xs := by
  have h2 := sumI_ge ff 1 xs (fun x hx => by have := h.one x hx; simp only [ff]; omega)
  unfold tot; omega
def shareCode (xs : List (Int × Int)) : Int := if frOk xs then (if xs.length = 0 then 3 else 0) else 1
def shareVal (xs : List (Int × Int)) : Int × Int := if shareCode xs = 0 then fracOf (litK xs xs.length) (tot xs) else (0, 0)

theorem specLightShare_any (A : Option Addr) (n c : Nat) (xs : List (Int × Int)) (w : World) (h : Sl w 2 e2 A n xs) (hn : n ≤ 1048577) :
    Calls Try.prog 34 #[.slice A n c] w fun e w' => e = .returned (.tuple #[.agg #[.int .i64 (shareVal xs).1, .int .i64 (shareVal xs).2], .int .i64 (shareCode xs)]) ∧ Below w.heap.size w w' := by
  cases hok : frOk xs
  · have H1 : Hid (shareCode xs = 1) := by simp [Hid, shareCode, hok]
    have H2 : Hid (shareVal xs = (0, 0)) := by rw [Hid, shareVal, H1.out]; rfl
    go_enter Try.func34, Try.ntmps34
    go_wp2_with fail
    refine (l16Ok_any A n c xs _ (h.alloc _) hn).mono ?_
    rintro e w2 ⟨rfl, rfl⟩
    go_wp2_with fail
    exact bodyPost_ret (v := .tuple #[.agg #[.int .i64 0, .int .i64 0], .int .i64 1]) (by simp [results, Try.results34, go_sem]) rfl ⟨by rw [H1.out, H2.out], below_alloc _ _⟩
  · have ok := frOk_iff.1 hok
    have hn60 : n ≤ 60 := by rw [← h.1]; exact ok.len
    by_cases hz : n = 0
    · have H1 : Hid (shareCode xs = 3) := by simp [Hid, shareCode, hok, h.1, hz]
      have H2 : Hid (shareVal xs = (0, 0)) := by rw [Hid, shareVal, H1.out]; rfl
      subst hz
      go_enter Try.func34, Try.ntmps34
      go_wp2_with fail
      refine (l16Ok_any A 0 c xs _ (h.alloc _) hn).mono ?_
      rintro e w2 ⟨rfl, rfl⟩
      go_wp2_with fail
      exact bodyPost_ret (v := .tuple #[.agg #[.int .i64 0, .int .i64 0], .int .i64 3]) (by simp [results, Try.results34, go_sem]) rfl ⟨by rw [H1.out, H2.out], below_alloc _ _⟩
    · have H1 : Hid (shareCode xs = 0) := by simp [Hid, shareCode, hok, h.1, hz]
      have H2 : Hid (shareVal xs = fracOf (litK xs n) (tot xs)) := by rw [Hid, shareVal, if_pos H1.out, h.1]
      have hpos := ok.tot_pos (by rw [h.1]; omega)
      have hbd := ok.sum_bd
      change 0 ≤ tot xs ∧ tot xs ≤ 1200000 at hbd
      have hz2 : ((n : Int) == 0) = false := by simp [hz]
      go_enter Try.func34, Try.ntmps34
      go_wp2_with fail
      refine (l16Ok_any A n c xs _ (h.alloc _) hn).mono ?_
      rintro e w2 ⟨rfl, rfl⟩
      go_wp2_with fail
      go_loop [4, 5] (fun s i => ∃ k : Nat, k ≤ n ∧ i = .int .i64 k ∧ s = .int .i64 (litK xs k)) (fun _ i => n - (intOf i).toNat)
      case atStart => exact ⟨0, by omega, rfl, by simp [litK, sumI]⟩
      case round =>
        obtain ⟨k, hk, rfl, rfl⟩ := hrel
        have hb2 := ok.lit_bd k
        by_cases hlt : k < n
        · obtain ⟨b, off, x, rfl, hx, hmx, c0, c1⟩ := (h.alloc (.cells #[.int .i64 0, .int .i64 0] 41)).at2 hlt
          have hb1 := ok.one x hmx
          have HS := Lib.hid (litK_step hx)
          go_wp2_with fail
          go_round
          case rel => exact ⟨k + 1, by omega, by go_num, by rw [HS.out]⟩
          case measure => simp [intOf]; omega
        · have : k = n := by omega
          subst this
          go_wp2_with fail
          refine (l16Total_any A k c xs _ (h.alloc _) ok).mono ?_
          rintro e w2 ⟨rfl, hb2⟩
          go_wp2_with fail
          refine (l02Make_any _ _ _ (by omega) hpos (by omega) (by omega)).mono ?_
          rintro e w3 ⟨rfl, hb3⟩
          have hb23 := below_step hb2 hb3
          have hbt := below_step (below_alloc w _) hb23
          have k0 : w3.cell? ⟨w.heap.size, 0, none⟩ = some (.int .i64 0) := by rw [hb23.cell (by simp)]; simp
          have k1 : w3.cell? ⟨w.heap.size, 1, none⟩ = some (.int .i64 0) := by rw [hb23.cell (by simp)]; simp
          have m0 : w3.frozen? ⟨w.heap.size, 0, none⟩ = false := by rw [hb23.frozen (by simp)]; simp
          have m1 : w3.frozen? ⟨w.heap.size, 1, none⟩ = false := by rw [hb23.frozen (by simp)]; simp
          go_wp2_with fail
          have q0 : (w3.setCell ⟨w.heap.size, 0, none⟩ (.int .i64 (fracOf (litK xs k) (tot xs)).1)).cell? ⟨w.heap.size, 0, none⟩ = some (.int .i64 (fracOf (litK xs k) (tot xs)).1) := World.cell?_setCell_same _ _ _ k0
          have q1 : ((w3.setCell ⟨w.heap.size, 0, none⟩ (.int .i64 (fracOf (litK xs k) (tot xs)).1)).setCell ⟨w.heap.size, 1, none⟩ (.int .i64 (fracOf (litK xs k) (tot xs)).2)).cell? ⟨w.heap.size, 1, none⟩ = some (.int .i64 (fracOf (litK xs k) (tot xs)).2) :=
            World.cell?_setCell_same _ _ _ ((World.cell?_setCell_other _ _ _ _ (by simp)).trans k1)
          exact bodyPost_ret (v := .tuple #[.agg #[.int .i64 (fracOf (litK xs k) (tot xs)).1, .int .i64 (fracOf (litK xs k) (tot xs)).2], .int .i64 0]) (by simp [results, Try.results34, go_sem, q0, q1]) rfl ⟨by rw [H1.out, H2.out], (hbt.setCell (by simp) _).setCell (by simp) _⟩

theorem implLightShare_any (A : Option Addr) (n c : Nat) (xs : List (Int × Int)) (w : World) (h : Sl w 2 e2 A n xs) (hn : n ≤ 1048577) :
    Calls Try.prog 35 #[.slice A n c] w fun e w' => e = .returned (.tuple #[.agg #[.int .i64 (shareVal xs).1, .int .i64 (shareVal xs).2], .int .i64 (shareCode xs)]) ∧ Below w.heap.size w w' := by
  cases hok : frOk xs
  · have H1 : Hid (shareCode xs = 1) := by simp [Hid, shareCode, hok]
    have H2 : Hid (shareVal xs = (0, 0)) := by rw [Hid, shareVal, H1.out]; rfl
    go_enter Try.func35, Try.ntmps35
    go_wp2_with fail
    refine (implValidFrames_any A n c xs _ (h.alloc _) hn).mono ?_
    rintro e w3 ⟨rfl, hb23⟩
    have hbt := below_step (below_alloc w _) hb23
    have k0 : w3.cell? ⟨w.heap.size, 0, none⟩ = some (.int .i64 0) := by rw [hb23.cell (by simp)]; simp
    have k1 : w3.cell? ⟨w.heap.size, 1, none⟩ = some (.int .i64 0) := by rw [hb23.cell (by simp)]; simp
    have m0 : w3.frozen? ⟨w.heap.size, 0, none⟩ = false := by rw [hb23.frozen (by simp)]; simp
    have m1 : w3.frozen? ⟨w.heap.size, 1, none⟩ = false := by rw [hb23.frozen (by simp)]; simp
    go_wp2_with fail
    have q0 : (w3.setCell ⟨w.heap.size, 0, none⟩ (.int .i64 0)).cell? ⟨w.heap.size, 0, none⟩ = some (.int .i64 0) := World.cell?_setCell_same _ _ _ k0
    have q1 : ((w3.setCell ⟨w.heap.size, 0, none⟩ (.int .i64 0)).setCell ⟨w.heap.size, 1, none⟩ (.int .i64 0)).cell? ⟨w.heap.size, 1, none⟩ = some (.int .i64 0) :=
      World.cell?_setCell_same _ _ _ ((World.cell?_setCell_other _ _ _ _ (by simp)).trans k1)
    exact bodyPost_ret (v := .tuple #[.agg #[.int .i64 0, .int .i64 0], .int .i64 1]) (by simp [results, Try.results35, go_sem, q0, q1]) rfl ⟨by rw [H1.out, H2.out], (hbt.setCell (by simp) _).setCell (by simp) _⟩
  · have ok := frOk_iff.1 hok
    have hn60 : n ≤ 60 := by rw [← h.1]; exact ok.len
    by_cases hz : n = 0
    · have H1 : Hid (shareCode xs = 3) := by simp [Hid, shareCode, hok, h.1, hz]
      have H2 : Hid (shareVal xs = (0, 0)) := by rw [Hid, shareVal, H1.out]; rfl
      subst hz
      go_enter Try.func35, Try.ntmps35
      go_wp2_with fail
      refine (implValidFrames_any A 0 c xs _ (h.alloc _) hn).mono ?_
      rintro e w3 ⟨rfl, hb23⟩
      have hbt := below_step (below_alloc w _) hb23
      have k0 : w3.cell? ⟨w.heap.size, 0, none⟩ = some (.int .i64 0) := by rw [hb23.cell (by simp)]; simp
      have k1 : w3.cell? ⟨w.heap.size, 1, none⟩ = some (.int .i64 0) := by rw [hb23.cell (by simp)]; simp
      have m0 : w3.frozen? ⟨w.heap.size, 0, none⟩ = false := by rw [hb23.frozen (by simp)]; simp
      have m1 : w3.frozen? ⟨w.heap.size, 1, none⟩ = false := by rw [hb23.frozen (by simp)]; simp
      go_wp2_with fail
      have q0 : (w3.setCell ⟨w.heap.size, 0, none⟩ (.int .i64 0)).cell? ⟨w.heap.size, 0, none⟩ = some (.int .i64 0) := World.cell?_setCell_same _ _ _ k0
      have q1 : ((w3.setCell ⟨w.heap.size, 0, none⟩ (.int .i64 0)).setCell ⟨w.heap.size, 1, none⟩ (.int .i64 0)).cell? ⟨w.heap.size, 1, none⟩ = some (.int .i64 0) :=
        World.cell?_setCell_same _ _ _ ((World.cell?_setCell_other _ _ _ _ (by simp)).trans k1)
      exact bodyPost_ret (v := .tuple #[.agg #[.int .i64 0, .int .i64 0], .int .i64 3]) (by simp [results, Try.results35, go_sem, q0, q1]) rfl ⟨by rw [H1.out, H2.out], (hbt.setCell (by simp) _).setCell (by simp) _⟩
    · have H1 : Hid (shareCode xs = 0) := by simp [Hid, shareCode, hok, h.1, hz]
      have H2 : Hid (shareVal xs = fracOf (litK xs n) (tot xs)) := by rw [Hid, shareVal, if_pos H1.out, h.1]
      have hpos := ok.tot_pos (by rw [h.1]; omega)
      have hbd := ok.sum_bd
      change 0 ≤ tot xs ∧ tot xs ≤ 1200000 at hbd
      have hz2 : ((n : Int) == 0) = false := by simp [hz]
      go_enter Try.func35, Try.ntmps35
      go_wp2_with fail
      refine (implValidFrames_any A n c xs _ (h.alloc _) hn).mono ?_
      rintro e w1 ⟨rfl, hb1⟩
      have hb01 := below_step (below_alloc w _) hb1
      go_wp2_with fail
      go_loopw [4, 19] (fun s i wr => ∃ k : Nat, k ≤ n ∧ i = .int .i64 k ∧ s = .int .i64 (litK xs k) ∧ Below w.heap.size w wr ∧ Below (w.alloc (.cells #[.int .i64 0, .int .i64 0] 41)).heap.size (w.alloc (.cells #[.int .i64 0, .int .i64 0] 41)) wr) (fun _ i _ => n - (intOf i).toNat)
      case atStart => exact ⟨0, by omega, rfl, by simp [litK, sumI], hb01, hb1⟩
      case round =>
        obtain ⟨k, hk, rfl, rfl, hb, hba⟩ := hrel
        have hb2 := ok.lit_bd k
        by_cases hlt : k < n
        · obtain ⟨b, off, x, rfl, hx, hmx, c0, c1⟩ := (h.below hb).at2 hlt
          have hb1 := ok.one x hmx
          have HS := Lib.hid (litK_step hx)
          go_wp2_with fail
          go_roundw
          case rel => exact ⟨k + 1, by omega, by go_num, by rw [HS.out], hb.alloc hb.size _, hba.alloc hba.size _⟩
          case measure => simp [intOf]; omega
        · have : k = n := by omega
          subst this
          go_wp2_with fail
          refine (totalMillis_any A k c xs _ (h.below hb) ok).mono ?_
          rintro e w2 ⟨rfl, hb2⟩
          have hbx := hba.trans (hb2.mono hba.size)
          go_wp2_with fail
          refine (lowest_any _ _ _ (by omega) hpos (by omega) (by omega)).mono ?_
          rintro e w3 ⟨rfl, hb3⟩
          have hb23 := hbx.trans (hb3.mono hbx.size)
          have hbt := below_step (below_alloc w _) hb23
          have k0 : w3.cell? ⟨w.heap.size, 0, none⟩ = some (.int .i64 0) := by rw [hb23.cell (by simp)]; simp
          have k1 : w3.cell? ⟨w.heap.size, 1, none⟩ = some (.int .i64 0) := by rw [hb23.cell (by simp)]; simp
          have m0 : w3.frozen? ⟨w.heap.size, 0, none⟩ = false := by rw [hb23.frozen (by simp)]; simp
          have m1 : w3.frozen? ⟨w.heap.size, 1, none⟩ = false := by rw [hb23.frozen (by simp)]; simp
          go_wp2_with fail
          have q0 : (w3.setCell ⟨w.heap.size, 0, none⟩ (.int .i64 (fracOf (litK xs k) (tot xs)).1)).cell? ⟨w.heap.size, 0, none⟩ = some (.int .i64 (fracOf (litK xs k) (tot xs)).1) := World.cell?_setCell_same _ _ _ k0
          have q1 : ((w3.setCell ⟨w.heap.size, 0, none⟩ (.int .i64 (fracOf (litK xs k) (tot xs)).1)).setCell ⟨w.heap.size, 1, none⟩ (.int .i64 (fracOf (litK xs k) (tot xs)).2)).cell? ⟨w.heap.size, 1, none⟩ = some (.int .i64 (fracOf (litK xs k) (tot xs)).2) :=
            World.cell?_setCell_same _ _ _ ((World.cell?_setCell_other _ _ _ _ (by simp)).trans k1)
          exact bodyPost_ret (v := .tuple #[.agg #[.int .i64 (fracOf (litK xs k) (tot xs)).1, .int .i64 (fracOf (litK xs k) (tot xs)).2], .int .i64 0]) (by simp [results, Try.results35, go_sem, q0, q1]) rfl ⟨by rw [H1.out, H2.out], (hbt.setCell (by simp) _).setCell (by simp) _⟩

def evenCode (m e p : Int) : Int := if inB m 0 60 && inB e 1 10000 && inB p 1 1000 then 0 else 2
def evenVal (m e p : Int) : List (Int × Int) := if evenCode m e p = 0 then List.replicate m.toNat (evenLit e p, e - evenLit e p) else []
theorem evenVal_len (m e p : Int) : (evenVal m e p).length ≤ 1048577 := by
  unfold evenVal
  split
  · rename_i h
    have : inB m 0 60 = true := by
      cases e1 : inB m 0 60
      · simp [evenCode, e1] at h
      · rfl
    have := inB_true.1 this
    simp; omega
  · simp
theorem even_bd {e p : Int} (he : 1 ≤ e ∧ e ≤ 10000) (hp : 1 ≤ p ∧ p ≤ 1000) : 0 ≤ e * p ∧ e * p ≤ 10000000 := by
  have h1 : 0 ≤ e * p := Int.mul_nonneg (by omega) (by omega)
  have h2 : e * p ≤ 10000 * 1000 := Int.mul_le_mul he.2 hp.2 (by omega) (by omega)
  omega

theorem specEvenFrames_any (m e p : Int) (w : World) (_hm : In64 m) (_he : In64 e) (_hp : In64 p) :
    Calls Try.prog 20 #[.int .i64 m, .int .i64 e, .int .i64 p] w (RetOwnC 52 2 e2 (evenVal m e p) (evenCode m e p) w) := by
  obtain ⟨i0, hi0, hz0, hz1, hz2⟩ := info_parts infoFrame
  cases h1 : inB m 0 60
  · have H1 : Hid (evenCode m e p = 2) := by simp [Hid, evenCode, h1]
    have H2 : Hid (evenVal m e p = []) := by rw [Hid, evenVal, H1.out]; rfl
    go_enter Try.func20, Try.ntmps20
    go_wp2_with (go_at_call 49; refine (l00In_any _ _ _ _).mono ?_; rintro e w' ⟨rfl, rfl⟩)
    go_ret2
    rw [H1.out, H2.out]
    exact RetOwnC.none_ (Below.refl _ _)
  cases h2 : inB e 1 10000
  · have H1 : Hid (evenCode m e p = 2) := by simp [Hid, evenCode, h1, h2]
    have H2 : Hid (evenVal m e p = []) := by rw [Hid, evenVal, H1.out]; rfl
    go_enter Try.func20, Try.ntmps20
    go_wp2_with (go_at_call 49; refine (l00In_any _ _ _ _).mono ?_; rintro e w' ⟨rfl, rfl⟩)
    go_ret2
    rw [H1.out, H2.out]
    exact RetOwnC.none_ (Below.refl _ _)
  cases h3 : inB p 1 1000
  · have H1 : Hid (evenCode m e p = 2) := by simp [Hid, evenCode, h1, h2, h3]
    have H2 : Hid (evenVal m e p = []) := by rw [Hid, evenVal, H1.out]; rfl
    go_enter Try.func20, Try.ntmps20
    go_wp2_with (go_at_call 49; refine (l00In_any _ _ _ _).mono ?_; rintro e w' ⟨rfl, rfl⟩)
    go_ret2
    rw [H1.out, H2.out]
    exact RetOwnC.none_ (Below.refl _ _)
  have H1 : Hid (evenCode m e p = 0) := by simp [Hid, evenCode, h1, h2, h3]
  have H2 : Hid (evenVal m e p = List.replicate m.toNat (evenLit e p, e - evenLit e p)) := by rw [Hid, evenVal, if_pos H1.out]
  have b1 := inB_true.1 h1
  have b2 := inB_true.1 h2
  have b3 := inB_true.1 h3
  have bm := even_bd b2 b3
  obtain ⟨M, rfl⟩ : ∃ M : Nat, m = M := ⟨m.toNat, by omega⟩
  have hl : 1 ≤ evenLit e p ∧ evenLit e p ≤ 10000 := by unfold evenLit; omega
  have HL : Hid (evenLit e p = max (e * p / 1000) 1) := rfl
  · have HX : Hid (evenLit e p = max 1 (e * p / 1000)) := by rw [Hid, evenLit]; omega
    have hx1 : max 1 (e * p / 1000) ≤ 10000 := by omega
    have hx0 : 1 ≤ max 1 (e * p / 1000) := by omega
    clear HL
    go_enter Try.func20, Try.ntmps20
    go_wp2_with (first | (go_at_call 49; refine (l00In_any _ _ _ _).mono ?_; rintro e w' ⟨rfl, rfl⟩) | (go_at_call 50; refine (l00Max_any _ _ _).mono ?_; rintro e w' ⟨rfl, rfl⟩))
    generalize max 1 (e * p / 1000) = X at HX hx1 hx0 ⊢
    have hst : Own (w.alloc (.cells #[] 52)) w.heap.size 52 2 e2 (.slice (some ⟨w.heap.size, 0, none⟩) 0 0) (List.replicate 0 (X, e - X)) := Own.lit w _ _ [] 0 (Nat.le_refl _) rfl (by simp [maxLen]) e2_len rfl
    go_loopw [9, 10] (fun v i wr => ∃ k : Nat, k ≤ M ∧ i = .int .i64 k ∧ Own wr w.heap.size 52 2 e2 v (List.replicate k (X, e - X)) ∧ Below w.heap.size w wr) (fun _ i _ => M - (intOf i).toNat)
    case atStart => exact ⟨0, by omega, rfl, hst, below_alloc _ _⟩
    case round =>
      obtain ⟨k, hk, rfl, ho, hb⟩ := hrel
      by_cases hlt : k < M
      · go_wp2_with (at_builtin; refine wpList_app1 rfl (.tmp 35) (.tmp 41) 25 52 rfl w.heap.size i0 _ 2 16 Try.underlying25 hi0 hz0 hz1 hz2 rfl (by decide) e2 e2_len e2_one _ (List.replicate k (X, e - X)) rfl (ho.alloc _) (X, e - X) _ _ rfl (newcell _ _ _ _ (by simp)) (by simp; omega) (by simp [maxLen]; omega) (by have := hb.size; simp; omega) ?_; intro v' w2 ho2 hb2)
        go_roundw
        case rel => exact ⟨k + 1, by omega, by go_num, by rw [List.replicate_succ']; exact ho2, (hb.alloc hb.size _).trans hb2⟩
        case measure => simp [intOf]; omega
      · have : k = M := by omega
        subst this
        go_wp2_with fail
        go_ret2
        rw [H1.out, H2.out, HX.out]
        exact RetOwnC.mk (by simpa using ho) hb
theorem implEvenFrames_any (m e p : Int) (w : World) (_hm : In64 m) (_he : In64 e) (_hp : In64 p) :
    Calls Try.prog 21 #[.int .i64 m, .int .i64 e, .int .i64 p] w (RetOwnC 52 2 e2 (evenVal m e p) (evenCode m e p) w) := by
  obtain ⟨i0, hi0, hz0, hz1, hz2⟩ := info_parts infoFrame
  cases h1 : inB m 0 60
  · have H1 : Hid (evenCode m e p = 2) := by simp [Hid, evenCode, h1]
    have H2 : Hid (evenVal m e p = []) := by rw [Hid, evenVal, H1.out]; rfl
    go_enter Try.func21, Try.ntmps21
    go_wp2_with (go_at_call 48; refine (within_any _ _ _ _).mono ?_; rintro e w' ⟨rfl, rfl⟩)
    go_ret2
    rw [H1.out, H2.out]
    exact RetOwnC.none_ (Below.refl _ _)
  cases h2 : inB e 1 10000
  · have H1 : Hid (evenCode m e p = 2) := by simp [Hid, evenCode, h1, h2]
    have H2 : Hid (evenVal m e p = []) := by rw [Hid, evenVal, H1.out]; rfl
    go_enter Try.func21, Try.ntmps21
    go_wp2_with (go_at_call 48; refine (within_any _ _ _ _).mono ?_; rintro e w' ⟨rfl, rfl⟩)
    go_ret2
    rw [H1.out, H2.out]
    exact RetOwnC.none_ (Below.refl _ _)
  cases h3 : inB p 1 1000
  · have H1 : Hid (evenCode m e p = 2) := by simp [Hid, evenCode, h1, h2, h3]
    have H2 : Hid (evenVal m e p = []) := by rw [Hid, evenVal, H1.out]; rfl
    go_enter Try.func21, Try.ntmps21
    go_wp2_with (go_at_call 48; refine (within_any _ _ _ _).mono ?_; rintro e w' ⟨rfl, rfl⟩)
    go_ret2
    rw [H1.out, H2.out]
    exact RetOwnC.none_ (Below.refl _ _)
  have H1 : Hid (evenCode m e p = 0) := by simp [Hid, evenCode, h1, h2, h3]
  have H2 : Hid (evenVal m e p = List.replicate m.toNat (evenLit e p, e - evenLit e p)) := by rw [Hid, evenVal, if_pos H1.out]
  have b1 := inB_true.1 h1
  have b2 := inB_true.1 h2
  have b3 := inB_true.1 h3
  have bm := even_bd b2 b3
  obtain ⟨M, rfl⟩ : ∃ M : Nat, m = M := ⟨m.toNat, by omega⟩
  have hl : 1 ≤ evenLit e p ∧ evenLit e p ≤ 10000 := by unfold evenLit; omega
  have HL : Hid (evenLit e p = max (e * p / 1000) 1) := rfl
  by_cases t1 : e * p / 1000 < 1
  · have HX : Hid (evenLit e p = 1) := by rw [Hid, evenLit]; omega
    clear HL
    go_enter Try.func21, Try.ntmps21
    go_wp2_with (go_at_call 48; refine (within_any _ _ _ _).mono ?_; rintro e w' ⟨rfl, rfl⟩)
    have hst : Own (w.alloc (.cells #[] 52)) w.heap.size 52 2 e2 (.slice (some ⟨w.heap.size, 0, none⟩) 0 0) (List.replicate 0 ((1 : Int), e - (1 : Int))) := Own.lit w _ _ [] 0 (Nat.le_refl _) rfl (by simp [maxLen]) e2_len rfl
    go_loopw [8, 30] (fun v i wr => ∃ k : Nat, k ≤ M ∧ i = .int .i64 k ∧ Own wr w.heap.size 52 2 e2 v (List.replicate k ((1 : Int), e - (1 : Int))) ∧ Below w.heap.size w wr) (fun _ i _ => M - (intOf i).toNat)
    case atStart => exact ⟨0, by omega, rfl, hst, below_alloc _ _⟩
    case round =>
      obtain ⟨k, hk, rfl, ho, hb⟩ := hrel
      by_cases hlt : k < M
      · go_wp2_with (at_builtin; refine wpList_app1 rfl (.tmp 32) (.tmp 38) 25 52 rfl w.heap.size i0 _ 2 16 Try.underlying25 hi0 hz0 hz1 hz2 rfl (by decide) e2 e2_len e2_one _ (List.replicate k ((1 : Int), e - (1 : Int))) rfl (ho.alloc _) ((1 : Int), e - (1 : Int)) _ _ rfl (newcell _ _ _ _ (by simp)) (by simp; omega) (by simp [maxLen]; omega) (by have := hb.size; simp; omega) ?_; intro v' w2 ho2 hb2)
        go_roundw
        case rel => exact ⟨k + 1, by omega, by go_num, by rw [List.replicate_succ']; exact ho2, (hb.alloc hb.size _).trans hb2⟩
        case measure => simp [intOf]; omega
      · have : k = M := by omega
        subst this
        go_wp2_with fail
        go_ret2
        rw [H1.out, H2.out, HX.out]
        exact RetOwnC.mk (by simpa using ho) hb
  · have HX : Hid (evenLit e p = e * p / 1000) := by rw [Hid, evenLit]; omega
    clear HL
    go_enter Try.func21, Try.ntmps21
    go_wp2_with (go_at_call 48; refine (within_any _ _ _ _).mono ?_; rintro e w' ⟨rfl, rfl⟩)
    have hst : Own (w.alloc (.cells #[] 52)) w.heap.size 52 2 e2 (.slice (some ⟨w.heap.size, 0, none⟩) 0 0) (List.replicate 0 (e * p / 1000, e - e * p / 1000)) := Own.lit w _ _ [] 0 (Nat.le_refl _) rfl (by simp [maxLen]) e2_len rfl
    go_loopw [8, 30] (fun v i wr => ∃ k : Nat, k ≤ M ∧ i = .int .i64 k ∧ Own wr w.heap.size 52 2 e2 v (List.replicate k (e * p / 1000, e - e * p / 1000)) ∧ Below w.heap.size w wr) (fun _ i _ => M - (intOf i).toNat)
    case atStart => exact ⟨0, by omega, rfl, hst, below_alloc _ _⟩
    case round =>
      obtain ⟨k, hk, rfl, ho, hb⟩ := hrel
      by_cases hlt : k < M
      · go_wp2_with (at_builtin; refine wpList_app1 rfl (.tmp 32) (.tmp 38) 25 52 rfl w.heap.size i0 _ 2 16 Try.underlying25 hi0 hz0 hz1 hz2 rfl (by decide) e2 e2_len e2_one _ (List.replicate k (e * p / 1000, e - e * p / 1000)) rfl (ho.alloc _) (e * p / 1000, e - e * p / 1000) _ _ rfl (newcell _ _ _ _ (by simp)) (by simp; omega) (by simp [maxLen]; omega) (by have := hb.size; simp; omega) ?_; intro v' w2 ho2 hb2)
        go_roundw
        case rel => exact ⟨k + 1, by omega, by go_num, by rw [List.replicate_succ']; exact ho2, (hb.alloc hb.size _).trans hb2⟩
        case measure => simp [intOf]; omega
      · have : k = M := by omega
        subst this
        go_wp2_with fail
        go_ret2
        rw [H1.out, H2.out, HX.out]
        exact RetOwnC.mk (by simpa using ho) hb
end Go.Proofs.Ytkjdinhbfoghnaa
