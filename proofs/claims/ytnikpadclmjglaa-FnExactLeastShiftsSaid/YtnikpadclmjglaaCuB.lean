/-
  Contracts of the functions on cues: hands at a tick, the most hands, the end.
-/
import Derived.Test.YtnikpadclmjglaaCuA
import Derived.Test.YtnikpadclmjglaaBInt
namespace Go.Proofs.Ytnikpadclmjglaa
set_option maxRecDepth 100000
open Go.RowKit

theorem l17At_any (A : Option Addr) (n c : Nat) (xs : List (Int × Int × Int × Int)) (t : Int) (w : World) (h : Sl w 4 e4 A n xs) (ok : CuW xs) :
    Calls Try.prog 87 #[.slice A n c, .int .i64 t] w fun e w' => e = .returned (.int .i64 (hands xs t)) ∧ Below w.heap.size w w' := by
  have hn : n ≤ 6 := by rw [← h.1]; exact ok.len
  have HL := Lib.hid h.1
  go_enter Try.func87, Try.ntmps87
  go_wp2
  go_loopw [5, 6] (fun s i wr => ∃ k : Nat, k ≤ n ∧ i = .int .i64 k ∧ s = .int .i64 (handsK xs t k) ∧ Below w.heap.size w wr) (fun _ i _ => n - (intOf i).toNat)
  case atStart => exact ⟨0, by omega, rfl, by simp [handsK, sumI], Below.refl _ _⟩
  case round =>
    obtain ⟨k, hk, rfl, rfl, hb⟩ := hrel
    by_cases hlt : k < n
    · obtain ⟨b, off, x, rfl, hx, hm, c0, c1, c2, c3⟩ := (h.below hb).at4 hlt
      have hb1 := ok.one x hm
      have hb2 := ok.handsK_bd t k
      have r1 : IntKind.i64.wrap (x.1 + x.2.1) = x.1 + x.2.1 := wr64 (by omega)
      have r2 : IntKind.i64.wrap (x.1 + x.2.1 - 1) = x.1 + x.2.1 - 1 := wr64 (by omega)
      have hbd := hb.drew
      have hsd := (h.below hb).drew
      cases q : inB t x.1 (x.1 + x.2.1 - 1)
      · have HS := Lib.hid (handsK_no (t := t) hx (by have := inB_false.1 q; omega))
        go_wp2_with fail
        go_still_tail 18, (by kernel_rfl)
        clear r1 r2
        change wpList _ _ _ _ _ wr.drew
        generalize wr.drew = w2 at hbd hsd ⊢
        go_wp2_with (go_at_call 54; refine (l00In_any _ _ _ _).mono ?_; rintro e w' ⟨rfl, rfl⟩)
        go_roundw
        case rel => exact ⟨k + 1, by omega, by go_num, by rw [HS.out], hbd⟩
        case measure => simp [intOf]; omega
      · have HS := Lib.hid (handsK_yes (t := t) hx (inB_true.1 q).1 (by have := (inB_true.1 q).2; omega))
        go_wp2_with fail
        go_still_tail 18, (by kernel_rfl)
        clear r1 r2
        change wpList _ _ _ _ _ wr.drew
        generalize wr.drew = w2 at hbd hsd ⊢
        obtain ⟨d0, d1, d2, d3⟩ := hsd.get4 hx
        go_wp2_with (go_at_call 54; refine (l00In_any _ _ _ _).mono ?_; rintro e w' ⟨rfl, rfl⟩)
        go_roundw
        case rel => exact ⟨k + 1, by omega, by go_num, by rw [HS.out], hbd⟩
        case measure => simp [intOf]; omega
    · have : k = n := by omega
      subst this
      go_wp2
      go_ret
      exact ⟨ret_int (by rw [← HL.out, handsK_len]), hb⟩

theorem handsAt_any (A : Option Addr) (n c : Nat) (xs : List (Int × Int × Int × Int)) (t : Int) (w : World) (h : Sl w 4 e4 A n xs) (ok : CuW xs) :
    Calls Try.prog 59 #[.slice A n c, .int .i64 t] w fun e w' => e = .returned (.int .i64 (hands xs t)) ∧ Below w.heap.size w w' := by
  have hn : n ≤ 6 := by rw [← h.1]; exact ok.len
  have HL := Lib.hid h.1
  go_enter Try.func59, Try.ntmps59
  go_wp2
  go_loopw [5, 10] (fun s i wr => ∃ k : Nat, k ≤ n ∧ i = .int .i64 k ∧ s = .int .i64 (handsK xs t k) ∧ Below w.heap.size w wr) (fun _ i _ => n - (intOf i).toNat)
  case atStart => exact ⟨0, by omega, rfl, by simp [handsK, sumI], Below.refl _ _⟩
  case round =>
    obtain ⟨k, hk, rfl, rfl, hb⟩ := hrel
    by_cases hlt : k < n
    · obtain ⟨b, off, x, rfl, hx, hm, c0, c1, c2, c3⟩ := (h.below hb).at4 hlt
      have hb1 := ok.one x hm
      have hb2 := ok.handsK_bd t k
      by_cases t1 : x.1 ≤ t
      · by_cases t2 : t < x.1 + x.2.1
        · have HS := Lib.hid (handsK_yes (t := t) hx t1 t2)
          go_wp2_with fail
          go_roundw
          case rel => exact ⟨k + 1, by omega, by go_num, by rw [HS.out], hb.alloc hb.size _⟩
          case measure => simp [intOf]; omega
        · have HS := Lib.hid (handsK_no (t := t) hx (by omega))
          go_wp2_with fail
          go_roundw
          case rel => exact ⟨k + 1, by omega, by go_num, by rw [HS.out], hb.alloc hb.size _⟩
          case measure => simp [intOf]; omega
      · have HS := Lib.hid (handsK_no (t := t) hx (by omega))
        have hd1 : decide (x.1 ≤ t) = false := by simp; omega
        go_wp2_with fail
        go_roundw
        case rel => exact ⟨k + 1, by omega, by go_num, by rw [HS.out], hb.alloc hb.size _⟩
        case measure => simp [intOf]; omega
    · have : k = n := by omega
      subst this
      go_wp2
      go_ret
      exact ⟨ret_int (by rw [← HL.out, handsK_len]), hb⟩

theorem l17Most_any (A : Option Addr) (n c : Nat) (xs : List (Int × Int × Int × Int)) (w : World) (h : Sl w 4 e4 A n xs) (ok : CuW xs) :
    Calls Try.prog 69 #[.slice A n c] w fun e w' => e = .returned (.int .i64 (most xs)) ∧ Below w.heap.size w w' := by
  have hn : n ≤ 6 := by rw [← h.1]; exact ok.len
  have HL := Lib.hid h.1
  go_enter Try.func69, Try.ntmps69
  go_wp2
  go_loopw [3, 4] (fun s i wr => ∃ k : Nat, k ≤ n ∧ i = .int .i64 k ∧ s = .int .i64 (mostK xs k) ∧ Below w.heap.size w wr) (fun _ i _ => n - (intOf i).toNat)
  case atStart => exact ⟨0, by omega, rfl, by rw [mostK_zero], Below.refl _ _⟩
  case round =>
    obtain ⟨k, hk, rfl, rfl, hb⟩ := hrel
    by_cases hlt : k < n
    · have HA := Lib.hid (h.below hb)
      obtain ⟨b, off, x, rfl, hx, hm, c0, c1, c2, c3⟩ := HA.out.at4 hlt
      have HS := Lib.hid (mostK_step hx)
      go_wp2_with fail
      refine (l17At_any _ n c xs x.1 _ (h.below hb) ok).mono ?_
      rintro e w2 ⟨rfl, hb2⟩
      go_wp2_with fail
      refine (l00Max_any _ _ _).mono ?_
      rintro e w3 ⟨rfl, rfl⟩
      go_wp2_with fail
      go_roundw
      case rel => exact ⟨k + 1, by omega, by go_num, by rw [HS.out], below_mid hb hb2 hb.size⟩
      case measure => simp [intOf]; omega
    · have : k = n := by omega
      subst this
      go_wp2
      go_ret
      exact ⟨ret_int (by rw [← HL.out]; rfl), hb⟩

theorem mostHands_any (A : Option Addr) (n c : Nat) (xs : List (Int × Int × Int × Int)) (w : World) (h : Sl w 4 e4 A n xs) (ok : CuW xs) :
    Calls Try.prog 30 #[.slice A n c] w fun e w' => e = .returned (.int .i64 (most xs)) ∧ Below w.heap.size w w' := by
  have hn : n ≤ 6 := by rw [← h.1]; exact ok.len
  have HL := Lib.hid h.1
  go_enter Try.func30, Try.ntmps30
  go_wp2
  go_loopw [3, 8] (fun s i wr => ∃ k : Nat, k ≤ n ∧ i = .int .i64 k ∧ s = .int .i64 (mostK xs k) ∧ Below w.heap.size w wr) (fun _ i _ => n - (intOf i).toNat)
  case atStart => exact ⟨0, by omega, rfl, by rw [mostK_zero], Below.refl _ _⟩
  case round =>
    obtain ⟨k, hk, rfl, rfl, hb⟩ := hrel
    by_cases hlt : k < n
    · obtain ⟨b, off, x, rfl, hx, hm, c0, c1, c2, c3⟩ := (h.below hb).at4 hlt
      have HS := Lib.hid (mostK_step hx)
      have hba := hb.alloc hb.size (.cells #[.int .i64 x.1, .int .i64 x.2.1, .int .i64 x.2.2.1, .int .i64 x.2.2.2] 49)
      by_cases t1 : mostK xs k < hands xs x.1
      all_goals
        go_wp2_with fail
        refine (handsAt_any _ n c xs x.1 _ (h.below hba) ok).mono ?_
        rintro e w2 ⟨rfl, hb2⟩
        have hb3 := below_mid hba hb2 hba.size
        go_wp2_with fail
        go_roundw
        case rel => exact ⟨k + 1, by omega, by go_num, by rw [HS.out]; go_num, hb3⟩
        case measure => simp [intOf]; omega
    · have : k = n := by omega
      subst this
      go_wp2
      go_ret
      exact ⟨ret_int (by rw [← HL.out]; rfl), hb⟩

end Go.Proofs.Ytnikpadclmjglaa
