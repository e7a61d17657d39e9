/-
  Contracts of the functions on slides in lanterns: light.
-/
import Derived.Test.YthkcamghmfenkaaShB
namespace Go.Proofs.Ythkcamghmfenkaa
open Go.RowKit

def lightCode (xs : List (Int × Int × Int)) (t : Int) : Int := if shOk xs then (if inB t 0 20000 then 0 else 2) else 1
def lightVal (xs : List (Int × Int × Int)) (t : Int) : Int := if lightCode xs t = 0 then lightI xs t else 0
theorem shOk_one (x : Int × Int × Int) : shOk [x] = shOne x := by simp [shOk]
theorem lightI_one (x : Int × Int × Int) (t : Int) : lightI [x] t = lev x t := by simp [lightI, sumI]
def fewCode (xs : List (Int × Int × Int)) : Int := if shOk xs then 0 else 1
def fewVal (xs : List (Int × Int × Int)) : Int := if shOk xs then mostOn xs xs.length else 0
def spanCode (xs : List (Int × Int × Int)) (a b : Int) : Int := if shOk xs then (if inB a 0 20000 then (if inB b a 20000 then 0 else 2) else 2) else 1
theorem spanCode_zero {xs : List (Int × Int × Int)} {a b : Int} (h : spanCode xs a b = 0) : shOk xs = true ∧ inB a 0 20000 = true ∧ inB b a 20000 = true := by
  unfold spanCode at h
  cases h1 : shOk xs <;> cases h2 : inB a 0 20000 <;> cases h3 : inB b a 20000 <;> simp_all
def darkVal (xs : List (Int × Int × Int)) (a b : Int) : Int := if spanCode xs a b = 0 then darkK xs a (b - a).toNat else 0
def firstCode (xs : List (Int × Int × Int)) (a b : Int) : Int := if spanCode xs a b = 0 then (if firstDark xs a (b - a).toNat = -1 then 3 else 0) else spanCode xs a b
def firstVal (xs : List (Int × Int × Int)) (a b : Int) : Int := if firstCode xs a b = 0 then a + firstDark xs a (b - a).toNat else 0
def brAll (xs : List (Int × Int × Int)) : Int × Int := brK xs 20000
def brCode (xs : List (Int × Int × Int)) : Int := if shOk xs then (if (brAll xs).2 = 0 then 10 else 0) else 1
def brVal (xs : List (Int × Int × Int)) : Int := if brCode xs = 0 then (brAll xs).1 else 0
def brLight (xs : List (Int × Int × Int)) : Int := if brCode xs = 0 then (brAll xs).2 else 0
theorem brK_yes {xs : List (Int × Int × Int)} {k : Nat} (h : (brK xs k).2 < lightI xs k) : brK xs (k + 1) = ((k : Int), lightI xs k) := by rw [brK_succ, brF, if_pos h]
theorem brK_no {xs : List (Int × Int × Int)} {k : Nat} (h : ¬ (brK xs k).2 < lightI xs k) : brK xs (k + 1) = brK xs k := by rw [brK_succ, brF, if_neg h]

theorem l15Light_any (A : Option Addr) (n c : Nat) (xs : List (Int × Int × Int)) (t : Int) (w : World) (h : Sl w 3 e3 A n xs) (ok : ShOk xs) (ht : 0 ≤ t ∧ t ≤ 20000) :
    Calls Try.prog 57 #[.slice A n c, .int .i64 t] w fun e w' => e = .returned (.int .i64 (lightI xs t)) ∧ Below w.heap.size w w' := by
  have hl := ok.len
  have hl2 := h.1
  go_enter Try.func57, Try.ntmps57
  go_wp2
  go_loopw [5, 6] (fun s i wr => ∃ k : Nat, k ≤ n ∧ i = .int .i64 k ∧ s = .int .i64 (lightK xs t k) ∧ Below w.heap.size w wr) (fun _ i _ => n - (intOf i).toNat)
  case atStart => exact ⟨0, by omega, rfl, rfl, Below.refl _ _⟩
  case round =>
    obtain ⟨k, hk, rfl, rfl, hb⟩ := hrel
    by_cases hlt : k < n
    · obtain ⟨b, off, x, rfl, hx, hm, c0, c1, c2⟩ := (h.below hb).at3 hlt
      have HS := Lib.hid (lightK_step t hx)
      have hx2 := ok.one x hm
      have q0 := ok.lightK_bd t k
      have q1 := lev_bd hx2 t
      go_wp2_with fail
      refine (l15Level_any x t _ hx2 ht).mono ?_
      rintro e w2 ⟨rfl, hb2⟩
      go_wp2_with fail
      go_roundw
      case rel => exact ⟨k + 1, by omega, by go_num, by rw [HS.out], below_mid hb hb2 hb.size⟩
      case measure => simp [intOf]; omega
    · have : k = n := by omega
      subst this
      have HE := Lib.hid (lightK_len xs t)
      have HL := Lib.hid h.1
      go_wp2_with fail
      go_ret
      exact ⟨ret_int (by rw [← HL.out, HE.out]), hb⟩

theorem light_any (A : Option Addr) (n c : Nat) (xs : List (Int × Int × Int)) (t : Int) (w : World) (h : Sl w 3 e3 A n xs) (ok : ShOk xs) (ht : 0 ≤ t ∧ t ≤ 20000) :
    Calls Try.prog 58 #[.slice A n c, .int .i64 t] w fun e w' => e = .returned (.int .i64 (lightI xs t)) ∧ Below w.heap.size w w' := by
  have hl := ok.len
  have hl2 := h.1
  go_enter Try.func58, Try.ntmps58
  go_wp2
  go_loopw [5, 10] (fun s i wr => ∃ k : Nat, k ≤ n ∧ i = .int .i64 k ∧ s = .int .i64 (lightK xs t k) ∧ Below w.heap.size w wr) (fun _ i _ => n - (intOf i).toNat)
  case atStart => exact ⟨0, by omega, rfl, rfl, Below.refl _ _⟩
  case round =>
    obtain ⟨k, hk, rfl, rfl, hb⟩ := hrel
    by_cases hlt : k < n
    · obtain ⟨b, off, x, rfl, hx, hm, c0, c1, c2⟩ := (h.below hb).at3 hlt
      have HS := Lib.hid (lightK_step t hx)
      have hx2 := ok.one x hm
      have q0 := ok.lightK_bd t k
      have q1 := lev_bd hx2 t
      go_wp2_with fail
      refine (level_any x t _ hx2 ht).mono ?_
      rintro e w2 ⟨rfl, hb2⟩
      go_wp2_with fail
      go_roundw
      case rel => exact ⟨k + 1, by omega, by go_num, by rw [HS.out], below_mid hb (below_step (below_alloc _ _) hb2) hb.size⟩
      case measure => simp [intOf]; omega
    · have : k = n := by omega
      subst this
      have HE := Lib.hid (lightK_len xs t)
      have HL := Lib.hid h.1
      go_wp2_with fail
      go_ret
      exact ⟨ret_int (by rw [← HL.out, HE.out]), hb⟩

theorem specLightAt_any (A : Option Addr) (n c : Nat) (xs : List (Int × Int × Int)) (t : Int) (w : World) (h : Sl w 3 e3 A n xs) (hn : n ≤ 1048577) (_ht : In64 t) :
    Calls Try.prog 30 #[.slice A n c, .int .i64 t] w fun e w' => e = .returned (.tuple #[.int .i64 (lightVal xs t), .int .i64 (lightCode xs t)]) ∧ Below w.heap.size w w' := by
  cases hok : shOk xs
  · have H1 : Hid (lightCode xs t = 1) := by rw [Hid, lightCode, hok]; rfl
    go_enter Try.func30, Try.ntmps30
    go_wp2_with fail
    refine (l15Ok_any A n c xs _ h hn).mono ?_
    rintro e w2 ⟨rfl, hb⟩
    go_wp2_with fail
    go_ret2
    exact ⟨ret2 (by rw [lightVal, if_neg (by rw [H1.out]; decide)]) H1.out.symm, hb⟩
  · have ok := shOk_iff.1 hok
    cases hin : inB t 0 20000
    · have H1 : Hid (lightCode xs t = 2) := by rw [Hid, lightCode, hok, hin]; rfl
      go_enter Try.func30, Try.ntmps30
      go_wp2_with fail
      refine (l15Ok_any A n c xs _ h hn).mono ?_
      rintro e w2 ⟨rfl, hb⟩
      go_wp2_with fail
      refine (l15Tick_any _ _).mono ?_
      rintro e w3 ⟨rfl, rfl⟩
      go_wp2_with fail
      go_ret2
      exact ⟨ret2 (by rw [lightVal, if_neg (by rw [H1.out]; decide)]) H1.out.symm, hb⟩
    · have H1 : Hid (lightCode xs t = 0) := by rw [Hid, lightCode, hok, hin]; rfl
      go_enter Try.func30, Try.ntmps30
      go_wp2_with fail
      refine (l15Ok_any A n c xs _ h hn).mono ?_
      rintro e w2 ⟨rfl, hb⟩
      go_wp2_with fail
      refine (l15Tick_any _ _).mono ?_
      rintro e w3 ⟨rfl, rfl⟩
      go_wp2_with fail
      refine (l15Light_any A n c xs t _ (h.below hb) ok (inB_true.1 hin)).mono ?_
      rintro e w4 ⟨rfl, hb4⟩
      go_wp2_with fail
      go_ret2
      exact ⟨ret2 (by rw [lightVal, if_pos H1.out]) H1.out.symm, below_step hb hb4⟩

theorem implLightAt_any (A : Option Addr) (n c : Nat) (xs : List (Int × Int × Int)) (t : Int) (w : World) (h : Sl w 3 e3 A n xs) (hn : n ≤ 1048577) (_ht : In64 t) :
    Calls Try.prog 31 #[.slice A n c, .int .i64 t] w fun e w' => e = .returned (.tuple #[.int .i64 (lightVal xs t), .int .i64 (lightCode xs t)]) ∧ Below w.heap.size w w' := by
  cases hok : shOk xs
  · have H1 : Hid (lightCode xs t = 1) := by rw [Hid, lightCode, hok]; rfl
    go_enter Try.func31, Try.ntmps31
    go_wp2_with fail
    refine (implValidShown_any A n c xs _ h hn).mono ?_
    rintro e w2 ⟨rfl, hb⟩
    go_wp2_with fail
    go_ret2
    exact ⟨ret2 (by rw [lightVal, if_neg (by rw [H1.out]; decide)]) H1.out.symm, hb⟩
  · have ok := shOk_iff.1 hok
    cases hin : inB t 0 20000
    · have H1 : Hid (lightCode xs t = 2) := by rw [Hid, lightCode, hok, hin]; rfl
      go_enter Try.func31, Try.ntmps31
      go_wp2_with fail
      refine (implValidShown_any A n c xs _ h hn).mono ?_
      rintro e w2 ⟨rfl, hb⟩
      go_wp2_with fail
      refine (within_any _ _ _ _).mono ?_
      rintro e w3 ⟨rfl, rfl⟩
      go_wp2_with fail
      go_ret2
      exact ⟨ret2 (by rw [lightVal, if_neg (by rw [H1.out]; decide)]) H1.out.symm, hb⟩
    · have H1 : Hid (lightCode xs t = 0) := by rw [Hid, lightCode, hok, hin]; rfl
      go_enter Try.func31, Try.ntmps31
      go_wp2_with fail
      refine (implValidShown_any A n c xs _ h hn).mono ?_
      rintro e w2 ⟨rfl, hb⟩
      go_wp2_with fail
      refine (within_any _ _ _ _).mono ?_
      rintro e w3 ⟨rfl, rfl⟩
      go_wp2_with fail
      refine (light_any A n c xs t _ (h.below hb) ok (inB_true.1 hin)).mono ?_
      rintro e w4 ⟨rfl, hb4⟩
      go_wp2_with fail
      go_ret2
      exact ⟨ret2 (by rw [lightVal, if_pos H1.out]) H1.out.symm, below_step hb hb4⟩

theorem implLevelAt_any (x : Int × Int × Int) (t : Int) (w : World) (_hx : In64 x.1 ∧ In64 x.2.1 ∧ In64 x.2.2) (ht : In64 t) :
    Calls Try.prog 27 #[.agg #[.int .i64 x.1, .int .i64 x.2.1, .int .i64 x.2.2], .int .i64 t] w fun e w' => e = .returned (.tuple #[.int .i64 (lightVal [x] t), .int .i64 (lightCode [x] t)]) ∧ Below w.heap.size w w' := by
  have hown : Own ((w.alloc (.cells #[.int .i64 x.1, .int .i64 x.2.1, .int .i64 x.2.2] 38)).alloc (.cells #[.int .i64 x.1, .int .i64 x.2.1, .int .i64 x.2.2] 38)) (w.alloc (.cells #[.int .i64 x.1, .int .i64 x.2.1, .int .i64 x.2.2] 38)).heap.size 38 3 e3 (.slice (some ⟨(w.alloc (.cells #[.int .i64 x.1, .int .i64 x.2.1, .int .i64 x.2.2] 38)).heap.size, 0, none⟩) 1 1) [x] := Own.lit _ _ _ [x] 1 (Nat.le_refl _) rfl (by simp [maxLen]) e3_len rfl
  have hs := hown.sl e3_len
  have hb0 : Below w.heap.size w ((w.alloc (.cells #[.int .i64 x.1, .int .i64 x.2.1, .int .i64 x.2.2] 38)).alloc (.cells #[.int .i64 x.1, .int .i64 x.2.1, .int .i64 x.2.2] 38)) := (below_alloc _ _).alloc (by simp) _
  clear hown
  rw [show (w.alloc (.cells #[.int .i64 x.1, .int .i64 x.2.1, .int .i64 x.2.2] 38)).heap.size = w.heap.size + 1 from by simp] at hs
  go_enter Try.func27, Try.ntmps27
  go_wp2_with fail
  refine (implLightAt_any _ 1 1 [x] t _ hs (by omega) ht).mono ?_
  rintro e w2 ⟨rfl, hb⟩
  go_wp2_with fail
  go_ret2
  exact ⟨rfl, below_step hb0 hb⟩

theorem specLevelAt_any (x : Int × Int × Int) (t : Int) (w : World) (_hx : In64 x.1 ∧ In64 x.2.1 ∧ In64 x.2.2) (_ht : In64 t) :
    Calls Try.prog 25 #[.agg #[.int .i64 x.1, .int .i64 x.2.1, .int .i64 x.2.2], .int .i64 t] w fun e w' => e = .returned (.tuple #[.int .i64 (lightVal [x] t), .int .i64 (lightCode [x] t)]) ∧ Below w.heap.size w w' := by
  have hown : Own (w.alloc (.cells #[.int .i64 x.1, .int .i64 x.2.1, .int .i64 x.2.2] 38)) w.heap.size 38 3 e3 (.slice (some ⟨w.heap.size, 0, none⟩) 1 1) [x] := Own.lit w _ _ [x] 1 (Nat.le_refl _) rfl (by simp [maxLen]) e3_len rfl
  have hb := below_alloc w (.cells #[.int .i64 x.1, .int .i64 x.2.1, .int .i64 x.2.2] 38)
  cases hok : shOne x
  · have H1 : Hid (lightCode [x] t = 1) := by rw [Hid, lightCode, shOk_one, hok]; rfl
    go_enter Try.func25, Try.ntmps25
    go_wp2_with fail
    refine (l15One_any x _).mono ?_
    rintro e w2 ⟨rfl, hb2⟩
    go_wp2_with fail
    go_ret2
    exact ⟨ret2 (by rw [lightVal, if_neg (by rw [H1.out]; decide)]) H1.out.symm, below_step hb hb2⟩
  · have ok := shOne_iff.1 hok
    cases hin : inB t 0 20000
    · have H1 : Hid (lightCode [x] t = 2) := by rw [Hid, lightCode, shOk_one, hok, hin]; rfl
      go_enter Try.func25, Try.ntmps25
      go_wp2_with fail
      refine (l15One_any x _).mono ?_
      rintro e w2 ⟨rfl, hb2⟩
      go_wp2_with fail
      refine (l15Tick_any _ _).mono ?_
      rintro e w3 ⟨rfl, rfl⟩
      go_wp2_with fail
      go_ret2
      exact ⟨ret2 (by rw [lightVal, if_neg (by rw [H1.out]; decide)]) H1.out.symm, below_step hb hb2⟩
    · have H1 : Hid (lightCode [x] t = 0) := by rw [Hid, lightCode, shOk_one, hok, hin]; rfl
      have H2 : Hid (lightVal [x] t = lev x t) := by rw [Hid, lightVal, if_pos H1.out, lightI_one]
      go_enter Try.func25, Try.ntmps25
      go_wp2_with fail
      refine (l15One_any x _).mono ?_
      rintro e w2 ⟨rfl, hb2⟩
      obtain ⟨c0, c1, c2⟩ := ((hown.below hb2).sl e3_len).get3 (i := 0) rfl
      have hb3 := below_step hb hb2
      clear hown hb hb2
      go_wp2_with fail
      refine (l15Tick_any _ _).mono ?_
      rintro e w3 ⟨rfl, rfl⟩
      go_wp2_with fail
      refine (l15Level_any x t _ ok (inB_true.1 hin)).mono ?_
      rintro e w4 ⟨rfl, hb4⟩
      go_wp2_with fail
      go_ret2
      exact ⟨ret2 H2.out.symm H1.out.symm, below_step hb3 hb4⟩

theorem l15Span_any (A : Option Addr) (n c : Nat) (xs : List (Int × Int × Int)) (a b : Int) (w : World) (h : Sl w 3 e3 A n xs) (hn : n ≤ 1048577) :
    Calls Try.prog 60 #[.slice A n c, .int .i64 a, .int .i64 b] w fun e w' => e = .returned (.int .i64 (spanCode xs a b)) ∧ Below w.heap.size w w' := by
  cases hok : shOk xs <;> cases h1 : inB a 0 20000 <;> cases h2 : inB b a 20000
  all_goals
    go_enter Try.func60, Try.ntmps60
    go_wp2_with fail
    refine (l15Ok_any A n c xs _ h hn).mono ?_
    rintro e w2 ⟨rfl, hb⟩
    go_wp2_with (first | (go_at_call 53; refine (l15Tick_any _ _).mono ?_; rintro e w' ⟨rfl, rfl⟩) | (go_at_call 47; refine (l00In_any _ _ _ _).mono ?_; rintro e w' ⟨rfl, rfl⟩))
    go_ret
    exact ⟨ret_int (by simp [spanCode, hok, h1, h2]), hb⟩

theorem ticksCode_any (A : Option Addr) (n c : Nat) (xs : List (Int × Int × Int)) (a b : Int) (w : World) (h : Sl w 3 e3 A n xs) (hn : n ≤ 1048577) :
    Calls Try.prog 61 #[.slice A n c, .int .i64 a, .int .i64 b] w fun e w' => e = .returned (.int .i64 (spanCode xs a b)) ∧ Below w.heap.size w w' := by
  cases hok : shOk xs <;> cases h1 : inB a 0 20000 <;> cases h2 : inB b a 20000
  all_goals
    go_enter Try.func61, Try.ntmps61
    go_wp2_with fail
    refine (implValidShown_any A n c xs _ h hn).mono ?_
    rintro e w2 ⟨rfl, hb⟩
    go_wp2_with ((go_at_call 48; refine (within_any _ _ _ _).mono ?_; rintro e w' ⟨rfl, rfl⟩))
    go_ret
    exact ⟨ret_int (by simp [spanCode, hok, h1, h2]), hb⟩

end Go.Proofs.Ythkcamghmfenkaa
