/-
  Contracts of the functions on slides in lanterns: most in lanterns, dark ticks, the brightest tick.
-/
import Derived.Test.YthkcamghmfenkaaShC
namespace Go.Proofs.Ythkcamghmfenkaa
open Go.RowKit

theorem brK_yesI {xs : List (Int × Int × Int)} {a : Int} (h0 : 0 ≤ a) (h : (brK xs a.toNat).2 < lightI xs a) : brK xs (a + 1).toNat = (a, lightI xs a) := by
  obtain ⟨k, rfl⟩ := Int.eq_ofNat_of_zero_le h0
  exact brK_yes h
theorem brK_noI {xs : List (Int × Int × Int)} {a : Int} (h0 : 0 ≤ a) (h : ¬ (brK xs a.toNat).2 < lightI xs a) : brK xs (a + 1).toNat = brK xs a.toNat := by
  obtain ⟨k, rfl⟩ := Int.eq_ofNat_of_zero_le h0
  exact brK_no h
theorem brAll_at {xs : List (Int × Int × Int)} {a : Int} (h : a = 20000) : brAll xs = brK xs a.toNat := by
  subst h; rfl
theorem ret3 {k l m : IntKind} {a b c d u v : Int} (h : a = b) (h' : c = d) (h'' : u = v) : Ending.returned (.tuple #[.int k a, .int l c, .int m u]) = .returned (.tuple #[.int k b, .int l d, .int m v]) := by rw [h, h', h'']


theorem specFewestLanterns_any (A : Option Addr) (n c : Nat) (xs : List (Int × Int × Int)) (w : World) (h : Sl w 3 e3 A n xs) (hn : n ≤ 1048577) :
    Calls Try.prog 28 #[.slice A n c] w fun e w' => e = .returned (.tuple #[.int .i64 (fewVal xs), .int .i64 (fewCode xs)]) ∧ Below w.heap.size w w' := by
  cases hok : shOk xs
  · have H1 : Hid (fewCode xs = 1) := by rw [Hid, fewCode, hok]; rfl
    have H2 : Hid (fewVal xs = 0) := by rw [Hid, fewVal, hok]; rfl
    go_enter Try.func28, Try.ntmps28
    go_wp2_with fail
    refine (l15Ok_any A n c xs _ h hn).mono ?_
    rintro e w2 ⟨rfl, hb⟩
    go_wp2_with fail
    go_ret2
    exact ⟨ret2 H2.out.symm H1.out.symm, hb⟩
  · have ok := shOk_iff.1 hok
    have H1 : Hid (fewCode xs = 0) := by rw [Hid, fewCode, hok]; rfl
    have H2 : Hid (fewVal xs = mostOn xs n) := by rw [Hid, fewVal, hok, h.1]; rfl
    have hl := ok.len
    have hl2 := h.1
    go_enter Try.func28, Try.ntmps28
    go_wp2_with fail
    refine (l15Ok_any A n c xs _ h hn).mono ?_
    rintro e w2 ⟨rfl, hb0⟩

    go_wp2_with fail
    go_loopw [4, 5] (fun s i wr => ∃ k : Nat, k ≤ n ∧ i = .int .i64 k ∧ s = .int .i64 (mostOn xs k) ∧ Below w.heap.size w wr) (fun _ i _ => n - (intOf i).toNat)
    case atStart => exact ⟨0, by omega, rfl, rfl, hb0⟩
    case round =>
      obtain ⟨k, hk, rfl, rfl, hb⟩ := hrel
      by_cases hlt : k < n
      · obtain ⟨b, off, x, rfl, hx, hm, c0, c1, c2⟩ := (h.below hb).at3 hlt
        have HS := Lib.hid (mostOn_step hx)
        clear c0 c1 c2
        go_wp2_with fail
        go_loopw [6, 7] (fun s i wr => ∃ j : Nat, j ≤ n ∧ i = .int .i64 j ∧ s = .int .i64 (onK xs x.1 j) ∧ Below w.heap.size w wr) (fun _ i _ => n - (intOf i).toNat)
        case atStart => exact ⟨0, by omega, rfl, rfl, hb⟩
        case round =>
          rename_i wr0 _
          obtain ⟨j, hj, rfl, rfl, hb2⟩ := hrel
          by_cases hlt2 : j < n
          · obtain ⟨c0, c1, c2⟩ := (h.below hb2).get3 hx
            obtain ⟨b', off', y, hAd, hy, hmy, d0, d1, d2⟩ := (h.below hb2).at3 hlt2
            injection hAd with hAd; injection hAd with e1 e2; subst e1 e2
            have hy1 := ok.one y hmy
            have q0 := onK_bd xs x.1 j
            have r1 : IntKind.i64.wrap (y.2.1 - 1) = y.2.1 - 1 := wr64 (by omega)
            have hbd := hb2.drew
            cases q : inB x.1 y.1 (y.2.1 - 1)
            · have HO := Lib.hid (onK_no (t := x.1) hy (by have := inB_false.1 q; omega))
              go_wp2_with fail
              go_still_tail 16, (by kernel_rfl)
              clear r1
              change wpList _ _ _ _ _ (World.drew _)
              generalize World.drew _ = w5 at hbd ⊢
              go_wp2_with (go_at_call 47; refine (l00In_any _ _ _ _).mono ?_; rintro e w' ⟨rfl, rfl⟩)
              go_roundw
              case rel => exact ⟨j + 1, by omega, by go_num, by rw [HO.out], hbd⟩
              case measure => simp [intOf]; omega
            · have HO := Lib.hid (onK_yes (t := x.1) hy (by have := inB_true.1 q; omega))
              go_wp2_with fail
              go_still_tail 16, (by kernel_rfl)
              clear r1
              change wpList _ _ _ _ _ (World.drew _)
              generalize World.drew _ = w5 at hbd ⊢
              go_wp2_with (go_at_call 47; refine (l00In_any _ _ _ _).mono ?_; rintro e w' ⟨rfl, rfl⟩)
              go_roundw
              case rel => exact ⟨j + 1, by omega, by go_num, by rw [HO.out], hbd⟩
              case measure => simp [intOf]; omega
          · have : j = n := by omega
            subst this
            have HL := Lib.hid h.1
            go_wp2_with (go_at_call 55; refine (l00Max_any _ _ _).mono ?_; rintro e w' ⟨rfl, rfl⟩)
            go_roundw
            case rel => exact ⟨k + 1, by omega, by go_num, by rw [HS.out, HL.out], hb2⟩
            case measure => simp [intOf]; omega
      · have : k = n := by omega
        subst this
        go_wp2_with fail
        go_ret2
        exact ⟨ret2 H2.out.symm H1.out.symm, hb⟩

theorem implFewestLanterns_any (A : Option Addr) (n c : Nat) (xs : List (Int × Int × Int)) (w : World) (h : Sl w 3 e3 A n xs) (hn : n ≤ 1048577) :
    Calls Try.prog 29 #[.slice A n c] w fun e w' => e = .returned (.tuple #[.int .i64 (fewVal xs), .int .i64 (fewCode xs)]) ∧ Below w.heap.size w w' := by
  cases hok : shOk xs
  · have H1 : Hid (fewCode xs = 1) := by rw [Hid, fewCode, hok]; rfl
    have H2 : Hid (fewVal xs = 0) := by rw [Hid, fewVal, hok]; rfl
    go_enter Try.func29, Try.ntmps29
    go_wp2_with fail
    refine (implValidShown_any A n c xs _ h hn).mono ?_
    rintro e w2 ⟨rfl, hb⟩
    go_wp2_with fail
    go_ret2
    exact ⟨ret2 H2.out.symm H1.out.symm, hb⟩
  · have ok := shOk_iff.1 hok
    have H1 : Hid (fewCode xs = 0) := by rw [Hid, fewCode, hok]; rfl
    have H2 : Hid (fewVal xs = mostOn xs n) := by rw [Hid, fewVal, hok, h.1]; rfl
    have hl := ok.len
    have hl2 := h.1
    go_enter Try.func29, Try.ntmps29
    go_wp2_with fail
    refine (implValidShown_any A n c xs _ h hn).mono ?_
    rintro e w2 ⟨rfl, hb0⟩

    go_wp2_with fail
    go_loopw [4, 15] (fun s i wr => ∃ k : Nat, k ≤ n ∧ i = .int .i64 k ∧ s = .int .i64 (mostOn xs k) ∧ Below w.heap.size w wr) (fun _ i _ => n - (intOf i).toNat)
    case atStart => exact ⟨0, by omega, rfl, rfl, hb0⟩
    case round =>
      obtain ⟨k, hk, rfl, rfl, hb⟩ := hrel
      by_cases hlt : k < n
      · obtain ⟨b, off, x, rfl, hx, hm, c0, c1, c2⟩ := (h.below hb).at3 hlt
        have HS := Lib.hid (mostOn_step hx)
        go_wp2_with fail
        clear c0 c1 c2
        generalize hbx : wr.heap.size = bx
        have hown : Own (wr.alloc (.cells #[.int .i64 x.1, .int .i64 x.2.1, .int .i64 x.2.2] 38)) bx 38 3 e3 (.slice (some ⟨bx, 0, none⟩) 1 1) [x] := by
          subst hbx; exact Own.lit wr _ _ [x] 1 (Nat.le_refl _) rfl (by simp [maxLen]) e3_len rfl
        have hbb : Below w.heap.size w (wr.alloc (.cells #[.int .i64 x.1, .int .i64 x.2.1, .int .i64 x.2.2] 38)) := hb.alloc hb.size _
        generalize wr.alloc (.cells #[.int .i64 x.1, .int .i64 x.2.1, .int .i64 x.2.2] 38) = w1 at hown hbb ⊢
        go_loopw [7, 21] (fun s i wr => ∃ j : Nat, j ≤ n ∧ i = .int .i64 j ∧ s = .int .i64 (onK xs x.1 j) ∧ Below w.heap.size w wr ∧ Below w1.heap.size w1 wr) (fun _ i _ => n - (intOf i).toNat)
        case atStart => exact ⟨0, by omega, rfl, rfl, hbb, Below.refl _ _⟩
        case round =>
          obtain ⟨j, hj, rfl, rfl, hb2, hb3⟩ := hrel
          by_cases hlt2 : j < n
          · obtain ⟨b', off', y, hAd, hy, hmy, d0, d1, d2⟩ := (h.below hb2).at3 hlt2
            injection hAd with hAd; injection hAd with e1 e2; subst e1 e2
            obtain ⟨c0, c1, c2⟩ := ((hown.below hb3).sl e3_len).get3 (i := 0) rfl
            have c0' := cell_al (show wr.cell? ⟨bx, 0, none⟩ = some (.int .i64 x.1) from c0)
            clear c0 c1 c2
            have q0 := onK_bd xs x.1 j
            by_cases q : y.1 ≤ x.1 ∧ x.1 < y.2.1
            · have HO := Lib.hid (onK_yes hy q)
              have HQ : Hid (decide (y.1 ≤ x.1 ∧ x.1 < y.2.1) = true) := by simp [Hid, q]
              go_wp2_with fail
              refine (isOn_any y x.1 _).mono ?_
              rintro e w5 ⟨rfl, hb5⟩
              rw [HQ.out]
              go_wp2_with fail
              go_roundw
              case rel => exact ⟨j + 1, by omega, by go_num, by rw [HO.out], below_mid hb2 (below_step (below_alloc _ _) hb5) hb2.size, below_mid hb3 (below_step (below_alloc _ _) hb5) hb3.size⟩
              case measure => simp [intOf]; omega
            · have HO := Lib.hid (onK_no hy q)
              have HQ : Hid (decide (y.1 ≤ x.1 ∧ x.1 < y.2.1) = false) := by simp only [Hid, decide_eq_false_iff_not]; exact q
              go_wp2_with fail
              refine (isOn_any y x.1 _).mono ?_
              rintro e w5 ⟨rfl, hb5⟩
              rw [HQ.out]
              go_wp2_with fail
              go_roundw
              case rel => exact ⟨j + 1, by omega, by go_num, by rw [HO.out], below_mid hb2 (below_step (below_alloc _ _) hb5) hb2.size, below_mid hb3 (below_step (below_alloc _ _) hb5) hb3.size⟩
              case measure => simp [intOf]; omega
          · have : j = n := by omega
            subst this
            have HL := Lib.hid h.1
            by_cases hmx : mostOn xs k < onK xs x.1 j
            all_goals
              go_wp2_with fail
              go_roundw
              case rel => exact ⟨k + 1, by omega, by go_num, by rw [HS.out, HL.out]; (try go_num), hb2⟩
              case measure => simp [intOf]; omega
      · have : k = n := by omega
        subst this
        go_wp2_with fail
        go_ret2
        exact ⟨ret2 H2.out.symm H1.out.symm, hb⟩

theorem specDarkTicks_any (A : Option Addr) (n c : Nat) (xs : List (Int × Int × Int)) (a b : Int) (w : World) (h : Sl w 3 e3 A n xs) (hn : n ≤ 1048577) (_ha : In64 a) (_hb : In64 b) :
    Calls Try.prog 38 #[.slice A n c, .int .i64 a, .int .i64 b] w fun e w' => e = .returned (.tuple #[.int .i64 (darkVal xs a b), .int .i64 (spanCode xs a b)]) ∧ Below w.heap.size w w' := by
  by_cases hz : spanCode xs a b = 0
  · obtain ⟨hok, h1, h2⟩ := spanCode_zero hz
    have ok := shOk_iff.1 hok
    have h1 := inB_true.1 h1
    have h2 := inB_true.1 h2
    obtain ⟨T, hT⟩ : ∃ T : Nat, T = (b - a).toNat := ⟨_, rfl⟩
    have H2 : Hid (darkVal xs a b = darkK xs a T) := by rw [Hid, darkVal, if_pos hz, hT]
    have HZ := Lib.hid hz
    clear hz
    go_enter Try.func38, Try.ntmps38
    go_wp2_with fail
    refine (l15Span_any A n c xs a b _ h hn).mono ?_
    rintro e w2 ⟨rfl, hb0⟩
    rw [HZ.out]
    go_wp2_with fail
    go_loopw [9, 10] (fun s i wr => ∃ k : Nat, k ≤ T ∧ i = .int .i64 (a + k) ∧ s = .int .i64 (darkK xs a k) ∧ Below w.heap.size w wr) (fun _ i _ => (b - intOf i).toNat)
    case atStart => exact ⟨0, by omega, by go_num, rfl, hb0⟩
    case round =>
      obtain ⟨k, hk, rfl, rfl, hb⟩ := hrel
      by_cases hlt : k < T
      · have q0 := darkK_bd xs a k
        cases q : (lightI xs (a + k) == 0)
        · have HS := Lib.hid (darkK_no q)
          go_wp2_with fail
          refine (l15Light_any A n c xs (a + k) _ (h.below hb) ok (by omega)).mono ?_
          rintro e w3 ⟨rfl, hb3⟩
          go_wp2_with fail
          go_roundw
          case rel => exact ⟨k + 1, by omega, by go_num, by rw [HS.out], below_mid hb hb3 hb.size⟩
          case measure => simp [intOf]; omega
        · have HS := Lib.hid (darkK_yes q)
          go_wp2_with fail
          refine (l15Light_any A n c xs (a + k) _ (h.below hb) ok (by omega)).mono ?_
          rintro e w3 ⟨rfl, hb3⟩
          go_wp2_with fail
          go_roundw
          case rel => exact ⟨k + 1, by omega, by go_num, by rw [HS.out], below_mid hb hb3 hb.size⟩
          case measure => simp [intOf]; omega
      · have : k = T := by omega
        subst this
        go_wp2_with fail
        go_ret2
        exact ⟨ret2 H2.out.symm HZ.out.symm, hb⟩
  · have hz2 : (spanCode xs a b != 0) = true := by simp [hz]
    have H2 : Hid (darkVal xs a b = 0) := by rw [Hid, darkVal, if_neg hz]
    go_enter Try.func38, Try.ntmps38
    go_wp2_with fail
    refine (l15Span_any A n c xs a b _ h hn).mono ?_
    rintro e w2 ⟨rfl, hb0⟩
    go_wp2_with fail
    go_ret2
    exact ⟨ret2 H2.out.symm rfl, hb0⟩

theorem implDarkTicks_any (A : Option Addr) (n c : Nat) (xs : List (Int × Int × Int)) (a b : Int) (w : World) (h : Sl w 3 e3 A n xs) (hn : n ≤ 1048577) (_ha : In64 a) (_hb : In64 b) :
    Calls Try.prog 39 #[.slice A n c, .int .i64 a, .int .i64 b] w fun e w' => e = .returned (.tuple #[.int .i64 (darkVal xs a b), .int .i64 (spanCode xs a b)]) ∧ Below w.heap.size w w' := by
  by_cases hz : spanCode xs a b = 0
  · obtain ⟨hok, h1, h2⟩ := spanCode_zero hz
    have ok := shOk_iff.1 hok
    have h1 := inB_true.1 h1
    have h2 := inB_true.1 h2
    obtain ⟨T, hT⟩ : ∃ T : Nat, T = (b - a).toNat := ⟨_, rfl⟩
    have H2 : Hid (darkVal xs a b = darkK xs a T) := by rw [Hid, darkVal, if_pos hz, hT]
    have HZ := Lib.hid hz
    clear hz
    go_enter Try.func39, Try.ntmps39
    go_wp2_with fail
    refine (ticksCode_any A n c xs a b _ h hn).mono ?_
    rintro e w2 ⟨rfl, hb0⟩
    rw [HZ.out]
    go_wp2_with fail
    go_loopw [9, 10] (fun s i wr => ∃ k : Nat, k ≤ T ∧ i = .int .i64 (a + k) ∧ s = .int .i64 (darkK xs a k) ∧ Below w.heap.size w wr) (fun _ i _ => (b - intOf i).toNat)
    case atStart => exact ⟨0, by omega, by go_num, rfl, hb0⟩
    case round =>
      obtain ⟨k, hk, rfl, rfl, hb⟩ := hrel
      by_cases hlt : k < T
      · have q0 := darkK_bd xs a k
        cases q : (lightI xs (a + k) == 0)
        · have HS := Lib.hid (darkK_no q)
          go_wp2_with fail
          refine (light_any A n c xs (a + k) _ (h.below hb) ok (by omega)).mono ?_
          rintro e w3 ⟨rfl, hb3⟩
          go_wp2_with fail
          go_roundw
          case rel => exact ⟨k + 1, by omega, by go_num, by rw [HS.out], below_mid hb hb3 hb.size⟩
          case measure => simp [intOf]; omega
        · have HS := Lib.hid (darkK_yes q)
          go_wp2_with fail
          refine (light_any A n c xs (a + k) _ (h.below hb) ok (by omega)).mono ?_
          rintro e w3 ⟨rfl, hb3⟩
          go_wp2_with fail
          go_roundw
          case rel => exact ⟨k + 1, by omega, by go_num, by rw [HS.out], below_mid hb hb3 hb.size⟩
          case measure => simp [intOf]; omega
      · have : k = T := by omega
        subst this
        go_wp2_with fail
        go_ret2
        exact ⟨ret2 H2.out.symm HZ.out.symm, hb⟩
  · have hz2 : (spanCode xs a b != 0) = true := by simp [hz]
    have H2 : Hid (darkVal xs a b = 0) := by rw [Hid, darkVal, if_neg hz]
    go_enter Try.func39, Try.ntmps39
    go_wp2_with fail
    refine (ticksCode_any A n c xs a b _ h hn).mono ?_
    rintro e w2 ⟨rfl, hb0⟩
    go_wp2_with fail
    go_ret2
    exact ⟨ret2 H2.out.symm rfl, hb0⟩

theorem specFirstDarkTick_any (A : Option Addr) (n c : Nat) (xs : List (Int × Int × Int)) (a b : Int) (w : World) (h : Sl w 3 e3 A n xs) (hn : n ≤ 1048577) (_ha : In64 a) (_hb : In64 b) :
    Calls Try.prog 36 #[.slice A n c, .int .i64 a, .int .i64 b] w fun e w' => e = .returned (.tuple #[.int .i64 (firstVal xs a b), .int .i64 (firstCode xs a b)]) ∧ Below w.heap.size w w' := by
  by_cases hz : spanCode xs a b = 0
  · obtain ⟨hok, h1, h2⟩ := spanCode_zero hz
    have ok := shOk_iff.1 hok
    have h1 := inB_true.1 h1
    have h2 := inB_true.1 h2
    obtain ⟨T, hT⟩ : ∃ T : Nat, T = (b - a).toNat := ⟨_, rfl⟩
    have HZ := Lib.hid hz
    clear hz
    go_enter Try.func36, Try.ntmps36
    go_wp2_with fail
    refine (l15Span_any A n c xs a b _ h hn).mono ?_
    rintro e w2 ⟨rfl, hb0⟩
    rw [HZ.out]
    go_wp2_with fail
    go_loopw [9] (fun i wr => ∃ k : Nat, k ≤ T ∧ i = .int .i64 (a + k) ∧ Hid (((List.range T).take k).any (fun i : Nat => lightI xs (a + i) == 0) = false) ∧ Below w.heap.size w wr) (fun i _ => (b - intOf i).toNat)
    case atStart => exact ⟨0, by omega, by go_num, by simp [Hid], hb0⟩
    case round =>
      obtain ⟨k, hk, rfl, he, hb⟩ := hrel
      by_cases hlt : k < T
      · have hx : (List.range T)[k]? = some k := by simp [hlt]
        cases q : (lightI xs (a + k) == 0)
        · go_wp2_with fail
          refine (l15Light_any A n c xs (a + k) _ (h.below hb) ok (by omega)).mono ?_
          rintro e w3 ⟨rfl, hb3⟩
          go_wp2_with fail
          go_roundw
          case rel => exact ⟨k + 1, by omega, by go_num, by rw [Hid, any_step _ hx, he.out, q]; rfl, below_mid hb hb3 hb.size⟩
          case measure => simp [intOf]; omega
        · have H3 : Hid (firstDark xs a (b - a).toNat = k) := by rw [Hid, ← hT, firstDark, idxI_hit he.out hx q]
          have H4 : Hid (firstCode xs a b = 0) := by rw [Hid, firstCode, if_pos HZ.out, if_neg (by rw [H3.out]; omega)]
          have H5 : Hid (firstVal xs a b = a + k) := by rw [Hid, firstVal, if_pos H4.out, H3.out]
          go_wp2_with fail
          refine (l15Light_any A n c xs (a + k) _ (h.below hb) ok (by omega)).mono ?_
          rintro e w3 ⟨rfl, hb3⟩
          go_wp2_with fail
          go_ret2
          exact ⟨ret2 H5.out.symm H4.out.symm, below_mid hb hb3 hb.size⟩
      · have : k = T := by omega
        subst this
        have H3 : Hid (firstDark xs a (b - a).toNat = -1) := by rw [Hid, ← hT, firstDark, idxI_miss]; have := he.out; rwa [List.take_of_length_le (by simp)] at this
        have H4 : Hid (firstCode xs a b = 3) := by rw [Hid, firstCode, if_pos HZ.out, if_pos H3.out]
        have H5 : Hid (firstVal xs a b = 0) := by rw [Hid, firstVal, if_neg (by rw [H4.out]; decide)]
        go_wp2_with fail
        go_ret2
        exact ⟨ret2 H5.out.symm H4.out.symm, hb⟩
  · have hz2 : (spanCode xs a b != 0) = true := by simp [hz]
    have H4 : Hid (firstCode xs a b = spanCode xs a b) := by rw [Hid, firstCode, if_neg hz]
    have H5 : Hid (firstVal xs a b = 0) := by rw [Hid, firstVal, if_neg (by rw [H4.out]; exact hz)]
    go_enter Try.func36, Try.ntmps36
    go_wp2_with fail
    refine (l15Span_any A n c xs a b _ h hn).mono ?_
    rintro e w2 ⟨rfl, hb0⟩
    go_wp2_with fail
    go_ret2
    exact ⟨ret2 H5.out.symm H4.out.symm, hb0⟩

theorem implFirstDarkTick_any (A : Option Addr) (n c : Nat) (xs : List (Int × Int × Int)) (a b : Int) (w : World) (h : Sl w 3 e3 A n xs) (hn : n ≤ 1048577) (_ha : In64 a) (_hb : In64 b) :
    Calls Try.prog 37 #[.slice A n c, .int .i64 a, .int .i64 b] w fun e w' => e = .returned (.tuple #[.int .i64 (firstVal xs a b), .int .i64 (firstCode xs a b)]) ∧ Below w.heap.size w w' := by
  by_cases hz : spanCode xs a b = 0
  · obtain ⟨hok, h1, h2⟩ := spanCode_zero hz
    have ok := shOk_iff.1 hok
    have h1 := inB_true.1 h1
    have h2 := inB_true.1 h2
    obtain ⟨T, hT⟩ : ∃ T : Nat, T = (b - a).toNat := ⟨_, rfl⟩
    have HZ := Lib.hid hz
    clear hz
    go_enter Try.func37, Try.ntmps37
    go_wp2_with fail
    refine (ticksCode_any A n c xs a b _ h hn).mono ?_
    rintro e w2 ⟨rfl, hb0⟩
    rw [HZ.out]
    go_wp2_with fail
    go_loopw [9] (fun i wr => ∃ k : Nat, k ≤ T ∧ i = .int .i64 (a + k) ∧ Hid (((List.range T).take k).any (fun i : Nat => lightI xs (a + i) == 0) = false) ∧ Below w.heap.size w wr) (fun i _ => (b - intOf i).toNat)
    case atStart => exact ⟨0, by omega, by go_num, by simp [Hid], hb0⟩
    case round =>
      obtain ⟨k, hk, rfl, he, hb⟩ := hrel
      by_cases hlt : k < T
      · have hx : (List.range T)[k]? = some k := by simp [hlt]
        cases q : (lightI xs (a + k) == 0)
        · go_wp2_with fail
          refine (light_any A n c xs (a + k) _ (h.below hb) ok (by omega)).mono ?_
          rintro e w3 ⟨rfl, hb3⟩
          go_wp2_with fail
          go_roundw
          case rel => exact ⟨k + 1, by omega, by go_num, by rw [Hid, any_step _ hx, he.out, q]; rfl, below_mid hb hb3 hb.size⟩
          case measure => simp [intOf]; omega
        · have H3 : Hid (firstDark xs a (b - a).toNat = k) := by rw [Hid, ← hT, firstDark, idxI_hit he.out hx q]
          have H4 : Hid (firstCode xs a b = 0) := by rw [Hid, firstCode, if_pos HZ.out, if_neg (by rw [H3.out]; omega)]
          have H5 : Hid (firstVal xs a b = a + k) := by rw [Hid, firstVal, if_pos H4.out, H3.out]
          go_wp2_with fail
          refine (light_any A n c xs (a + k) _ (h.below hb) ok (by omega)).mono ?_
          rintro e w3 ⟨rfl, hb3⟩
          go_wp2_with fail
          go_ret2
          exact ⟨ret2 H5.out.symm H4.out.symm, below_mid hb hb3 hb.size⟩
      · have : k = T := by omega
        subst this
        have H3 : Hid (firstDark xs a (b - a).toNat = -1) := by rw [Hid, ← hT, firstDark, idxI_miss]; have := he.out; rwa [List.take_of_length_le (by simp)] at this
        have H4 : Hid (firstCode xs a b = 3) := by rw [Hid, firstCode, if_pos HZ.out, if_pos H3.out]
        have H5 : Hid (firstVal xs a b = 0) := by rw [Hid, firstVal, if_neg (by rw [H4.out]; decide)]
        go_wp2_with fail
        go_ret2
        exact ⟨ret2 H5.out.symm H4.out.symm, hb⟩
  · have hz2 : (spanCode xs a b != 0) = true := by simp [hz]
    have H4 : Hid (firstCode xs a b = spanCode xs a b) := by rw [Hid, firstCode, if_neg hz]
    have H5 : Hid (firstVal xs a b = 0) := by rw [Hid, firstVal, if_neg (by rw [H4.out]; exact hz)]
    go_enter Try.func37, Try.ntmps37
    go_wp2_with fail
    refine (ticksCode_any A n c xs a b _ h hn).mono ?_
    rintro e w2 ⟨rfl, hb0⟩
    go_wp2_with fail
    go_ret2
    exact ⟨ret2 H5.out.symm H4.out.symm, hb0⟩

set_option maxHeartbeats 400000 in
theorem specBrightest_any (A : Option Addr) (n c : Nat) (xs : List (Int × Int × Int)) (w : World) (h : Sl w 3 e3 A n xs) (hn : n ≤ 1048577) :
    Calls Try.prog 34 #[.slice A n c] w fun e w' => e = .returned (.tuple #[.int .i64 (brVal xs), .int .i64 (brLight xs), .int .i64 (brCode xs)]) ∧ Below w.heap.size w w' := by
  cases hok : shOk xs
  · have H1 : Hid (brCode xs = 1) := by rw [Hid, brCode, hok]; rfl
    go_enter Try.func34, Try.ntmps34
    go_wp2_with fail
    refine (l15Ok_any A n c xs _ h hn).mono ?_
    rintro e w2 ⟨rfl, hb⟩
    go_wp2_with fail
    go_ret3
    exact ⟨ret3 (by rw [brVal, if_neg (by rw [H1.out]; decide)]) (by rw [brLight, if_neg (by rw [H1.out]; decide)]) H1.out.symm, hb⟩
  · have ok := shOk_iff.1 hok
    go_enter Try.func34, Try.ntmps34
    go_wp2_with fail
    refine (l15Ok_any A n c xs _ h hn).mono ?_
    rintro e w2 ⟨rfl, hb0⟩
    go_wp2_with fail
    go_loopw [5, 6, 7] (fun t s i wr => ∃ k : Int, 0 ≤ k ∧ k ≤ 20000 ∧ i = .int .i64 k ∧ s = .int .i64 (brK xs k.toNat).2 ∧ t = .int .i64 (brK xs k.toNat).1 ∧ Below w.heap.size w wr) (fun _ _ i _ => (20000 - intOf i).toNat)
    case atStart => exact ⟨0, by omega, by omega, rfl, rfl, rfl, hb0⟩
    case round =>
      obtain ⟨k, hk0, hk, rfl, rfl, rfl, hb⟩ := hrel
      by_cases hlt : k < 20000
      · by_cases q : (brK xs k.toNat).2 < lightI xs k
        · have HS := Lib.hid (brK_yesI hk0 q)
          go_wp2_with fail
          refine (l15Light_any A n c xs k _ (h.below hb) ok (by omega)).mono ?_
          rintro e w3 ⟨rfl, hb3⟩
          go_wp2_with fail
          go_roundw
          case rel => exact ⟨k + 1, by omega, by omega, rfl, by rw [HS.out], by rw [HS.out], below_mid hb hb3 hb.size⟩
          case measure => simp [intOf]; omega
        · have HS := Lib.hid (brK_noI hk0 q)
          go_wp2_with fail
          refine (l15Light_any A n c xs k _ (h.below hb) ok (by omega)).mono ?_
          rintro e w3 ⟨rfl, hb3⟩
          go_wp2_with fail
          go_roundw
          case rel => exact ⟨k + 1, by omega, by omega, rfl, by rw [HS.out], by rw [HS.out], below_mid hb hb3 hb.size⟩
          case measure => simp [intOf]; omega
      · obtain ⟨p, hp⟩ : ∃ p, p = brK xs k.toNat := ⟨_, rfl⟩
        have HB : Hid (brAll xs = p) := by rw [Hid, hp, brAll_at (a := k) (by omega)]
        rw [← hp]
        clear hp
        cases q : (p.2 == 0)
        · have H1 : Hid (brCode xs = 0) := by rw [Hid, brCode, hok, HB.out]; simp at q; simp [q]
          go_wp2_with fail
          go_ret3
          exact ⟨ret3 (by rw [brVal, if_pos H1.out, HB.out]) (by rw [brLight, if_pos H1.out, HB.out]) H1.out.symm, hb⟩
        · have H1 : Hid (brCode xs = 10) := by rw [Hid, brCode, hok, HB.out]; simp at q; simp [q]
          go_wp2_with fail
          go_ret3
          exact ⟨ret3 (by rw [brVal, if_neg (by rw [H1.out]; decide)]) (by rw [brLight, if_neg (by rw [H1.out]; decide)]) H1.out.symm, hb⟩

set_option maxHeartbeats 400000 in
theorem implBrightest_any (A : Option Addr) (n c : Nat) (xs : List (Int × Int × Int)) (w : World) (h : Sl w 3 e3 A n xs) (hn : n ≤ 1048577) :
    Calls Try.prog 35 #[.slice A n c] w fun e w' => e = .returned (.tuple #[.int .i64 (brVal xs), .int .i64 (brLight xs), .int .i64 (brCode xs)]) ∧ Below w.heap.size w w' := by
  cases hok : shOk xs
  · have H1 : Hid (brCode xs = 1) := by rw [Hid, brCode, hok]; rfl
    go_enter Try.func35, Try.ntmps35
    go_wp2_with fail
    refine (implValidShown_any A n c xs _ h hn).mono ?_
    rintro e w2 ⟨rfl, hb⟩
    go_wp2_with fail
    go_ret3
    exact ⟨ret3 (by rw [brVal, if_neg (by rw [H1.out]; decide)]) (by rw [brLight, if_neg (by rw [H1.out]; decide)]) H1.out.symm, hb⟩
  · have ok := shOk_iff.1 hok
    go_enter Try.func35, Try.ntmps35
    go_wp2_with fail
    refine (implValidShown_any A n c xs _ h hn).mono ?_
    rintro e w2 ⟨rfl, hb0⟩
    go_wp2_with fail
    go_loopw [5, 6, 12] (fun t s i wr => ∃ k : Int, 0 ≤ k ∧ k ≤ 20000 ∧ i = .int .i64 k ∧ s = .int .i64 (brK xs k.toNat).2 ∧ t = .int .i64 (brK xs k.toNat).1 ∧ Below w.heap.size w wr) (fun _ _ i _ => (20000 - intOf i).toNat)
    case atStart => exact ⟨0, by omega, by omega, rfl, rfl, rfl, hb0⟩
    case round =>
      obtain ⟨k, hk0, hk, rfl, rfl, rfl, hb⟩ := hrel
      by_cases hlt : k < 20000
      · by_cases q : (brK xs k.toNat).2 < lightI xs k
        · have HS := Lib.hid (brK_yesI hk0 q)
          go_wp2_with fail
          refine (light_any A n c xs k _ (h.below hb) ok (by omega)).mono ?_
          rintro e w3 ⟨rfl, hb3⟩
          go_wp2_with fail
          go_roundw
          case rel => exact ⟨k + 1, by omega, by omega, rfl, by rw [HS.out], by rw [HS.out], below_mid hb hb3 hb.size⟩
          case measure => simp [intOf]; omega
        · have HS := Lib.hid (brK_noI hk0 q)
          go_wp2_with fail
          refine (light_any A n c xs k _ (h.below hb) ok (by omega)).mono ?_
          rintro e w3 ⟨rfl, hb3⟩
          go_wp2_with fail
          go_roundw
          case rel => exact ⟨k + 1, by omega, by omega, rfl, by rw [HS.out], by rw [HS.out], below_mid hb hb3 hb.size⟩
          case measure => simp [intOf]; omega
      · obtain ⟨p, hp⟩ : ∃ p, p = brK xs k.toNat := ⟨_, rfl⟩
        have HB : Hid (brAll xs = p) := by rw [Hid, hp, brAll_at (a := k) (by omega)]
        rw [← hp]
        clear hp
        cases q : (p.2 == 0)
        · have H1 : Hid (brCode xs = 0) := by rw [Hid, brCode, hok, HB.out]; simp at q; simp [q]
          go_wp2_with fail
          go_ret3
          exact ⟨ret3 (by rw [brVal, if_pos H1.out, HB.out]) (by rw [brLight, if_pos H1.out, HB.out]) H1.out.symm, hb⟩
        · have H1 : Hid (brCode xs = 10) := by rw [Hid, brCode, hok, HB.out]; simp at q; simp [q]
          go_wp2_with fail
          go_ret3
          exact ⟨ret3 (by rw [brVal, if_neg (by rw [H1.out]; decide)]) (by rw [brLight, if_neg (by rw [H1.out]; decide)]) H1.out.symm, hb⟩

end Go.Proofs.Ythkcamghmfenkaa
