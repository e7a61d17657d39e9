/-
  Contracts of the functions on showings: BestLoading, FewestLoads, LeastPlaces.
-/
import Derived.Test.YtodfomglhlamoaaLdF
namespace Go.Proofs.Ytodfomglhlamoaa
open Go.RowKit

def blVal (l : List UInt8) (p : Int) : List Int := if ldCode l p = 0 then bsPlan l p.toNat else []
theorem bsPlan_len (l : List UInt8) (p : Nat) : (bsPlan l p).length = l.length := (bsK_len l p l.length).2
theorem blVal_len {l : List UInt8} {p : Int} (h : l.length ≤ 1048576) : (blVal l p).length ≤ 1048577 := by
  unfold blVal; split
  · rw [bsPlan_len]; omega
  · simp
def fwI (l : List UInt8) (p : Nat) : Int := lsVal l (bsPlan l p) p
def fwVal (l : List UInt8) (p : Int) : Int := if ldCode l p = 0 then fwI l p.toNat else 0
def lpIdx (l : List UInt8) (x : Int) : Int := idxI (fun j : Nat => decide (fwI l (j + 1) ≤ x)) (List.range 6)
def lpCode (l : List UInt8) (x : Int) : Int := if ldOk l then (if inB x 0 40 then (if lpIdx l x = -1 then 3 else 0) else 2) else 1
def lpVal (l : List UInt8) (x : Int) : Int := if lpCode l x = 0 then lpIdx l x + 1 else 0
theorem lpVal_no {l : List UInt8} {x : Int} (h : ¬ lpCode l x = 0) : lpVal l x = 0 := by rw [lpVal, if_neg h]
theorem plan_rng (l : List UInt8) (p : Nat) (hp : 1 ≤ p) : ∀ v ∈ bsPlan l p, 0 ≤ v ∧ v ≤ (p : Int) - 1 := bsK_rng (Nat.le_refl _) hp

theorem l20Best_int (s : ByteArray) (p : Int) (w : World) (hs : s.size ≤ 40) (hok : ldOk s.data.toList = true) (h1 : 1 ≤ p) (h6 : p ≤ 6) :
    Calls Try.prog 48 #[.string s, .int .i64 p] w (RetOwn 2 1 e1 (bsPlan s.data.toList p.toNat) w) := by
  obtain ⟨P, rfl⟩ := Int.eq_ofNat_of_zero_le (show 0 ≤ p by omega)
  exact l20Best_any s P w hs hok (by omega) (by omega)
theorem l20Of_int (s : ByteArray) (p : Int) (A : Option Addr) (n cp : Nat) (xs : List Int) (w : World) (hs : s.size ≤ 1048576) (h1 : 1 ≤ p) (h6 : p ≤ 6) (h : Sl w 1 e1 A n xs) (hn : n = s.size) (hv : ∀ v ∈ xs, 0 ≤ v ∧ v ≤ p - 1) :
    Calls Try.prog 41 #[.string s, .int .i64 p, .slice A n cp] w fun e w' => e = .returned (.int .i64 (lsVal s.data.toList xs p)) ∧ Below w.heap.size w w' := by
  obtain ⟨P, rfl⟩ := Int.eq_ofNat_of_zero_le (show 0 ≤ p by omega)
  exact l20Of_any s P A n cp xs w hs (by omega) (by omega) h hn hv

theorem specBestLoading_any (s : ByteArray) (p : Int) (w : World) (hs : s.size ≤ 1048576) (_hp : In64 p) :
    Calls Try.prog 28 #[.string s, .int .i64 p] w (RetOwnC 2 1 e1 (blVal s.data.toList p) (ldCode s.data.toList p) w) := by
  by_cases hz : ldCode s.data.toList p = 0
  · obtain ⟨hok, hp1, hp2⟩ := ldCode_zero hz
    have hsz := ldOk_len hok
    rw [lenB] at hsz
    obtain ⟨P, rfl⟩ := Int.eq_ofNat_of_zero_le (show 0 ≤ p by omega)
    have HV : Hid (blVal s.data.toList P = bsPlan s.data.toList P) := by rw [Hid, blVal, if_pos hz]; rfl
    have HZ := Lib.hid hz
    clear hz
    go_enter Try.func28, Try.ntmps28
    go_wp2_with fail
    refine (l20Code_any s P _ hs).mono ?_
    rintro e w2 ⟨rfl, rfl⟩
    rw [HZ.out]
    go_wp2_with fail
    refine (l20Best_any s P _ hsz hok (by omega) (by omega)).mono ?_
    rintro e w2 ⟨A', n', c', rfl, ho, hb⟩
    go_wp2_with fail
    go_ret2
    rw [HV.out, HZ.out]
    exact RetOwnC.mk ho hb
  · have hz2 : (ldCode s.data.toList p != 0) = true := by simp [hz]
    have HV : Hid (blVal s.data.toList p = []) := by rw [Hid, blVal, if_neg hz]
    go_enter Try.func28, Try.ntmps28
    go_wp2_with fail
    refine (l20Code_any s p _ hs).mono ?_
    rintro e w2 ⟨rfl, rfl⟩
    go_wp2_with fail
    go_ret2
    rw [HV.out]
    exact RetOwnC.none_ (Below.refl _ _)

theorem specFewestLoads_any (s : ByteArray) (p : Int) (w : World) (hs : s.size ≤ 1048576) (_hp : In64 p) :
    Calls Try.prog 26 #[.string s, .int .i64 p] w fun e w' => e = .returned (.tuple #[.int .i64 (fwVal s.data.toList p), .int .i64 (ldCode s.data.toList p)]) ∧ Below w.heap.size w w' := by
  by_cases hz : ldCode s.data.toList p = 0
  · obtain ⟨hok, hp1, hp2⟩ := ldCode_zero hz
    have hsz := ldOk_len hok
    rw [lenB] at hsz
    obtain ⟨P, rfl⟩ := Int.eq_ofNat_of_zero_le (show 0 ≤ p by omega)
    have HV : Hid (fwVal s.data.toList P = lsVal s.data.toList (bsPlan s.data.toList P) P) := by rw [Hid, fwVal, if_pos hz]; rfl
    have HZ := Lib.hid hz
    clear hz
    go_enter Try.func26, Try.ntmps26
    go_wp2_with fail
    refine (l20Code_any s P _ hs).mono ?_
    rintro e w2 ⟨rfl, rfl⟩
    rw [HZ.out]
    go_wp2_with fail
    refine (l20Best_any s P _ hsz hok (by omega) (by omega)).mono ?_
    rintro e w2 ⟨A', n', c', rfl, ho, hb⟩
    have hsl := ho.sl e1_len
    obtain rfl : n' = s.size := by rw [← hsl.1, bsPlan_len, lenB]
    go_wp2_with fail
    refine (l20Of_any s P A' s.size c' _ _ (by omega) (by omega) (by omega) hsl rfl (plan_rng _ P (by omega))).mono ?_
    rintro e w3 ⟨rfl, hb3⟩
    have hb4 := below_step hb hb3
    go_wp2_with fail
    go_ret2
    exact ⟨ret2 HV.out.symm HZ.out.symm, hb4⟩
  · have hz2 : (ldCode s.data.toList p != 0) = true := by simp [hz]
    have HV : Hid (fwVal s.data.toList p = 0) := by rw [Hid, fwVal, if_neg hz]
    go_enter Try.func26, Try.ntmps26
    go_wp2_with fail
    refine (l20Code_any s p _ hs).mono ?_
    rintro e w2 ⟨rfl, rfl⟩
    go_wp2_with fail
    go_ret2
    exact ⟨ret2 HV.out.symm rfl, Below.refl _ _⟩

set_option maxHeartbeats 400000 in
theorem specLeastPlaces_any (s : ByteArray) (x : Int) (w : World) (hs : s.size ≤ 1048576) (_hx : In64 x) :
    Calls Try.prog 24 #[.string s, .int .i64 x] w fun e w' => e = .returned (.tuple #[.int .i64 (lpVal s.data.toList x), .int .i64 (lpCode s.data.toList x)]) ∧ Below w.heap.size w w' := by
  cases hok : ldOk s.data.toList
  · have H1 : Hid (lpCode s.data.toList x = 1) := by rw [Hid, lpCode, hok]; rfl
    go_enter Try.func24, Try.ntmps24
    go_wp2_with fail
    refine (l20Ok_any s _ hs).mono ?_
    rintro e w2 ⟨rfl, rfl⟩
    go_wp2_with fail
    go_ret2
    exact ⟨ret2 (by rw [lpVal_no (by rw [H1.out]; decide)]) H1.out.symm, Below.refl _ _⟩
  have hsz := ldOk_len hok
  rw [lenB] at hsz
  cases hin : inB x 0 40
  · have H1 : Hid (lpCode s.data.toList x = 2) := by rw [Hid, lpCode, hok, hin]; rfl
    go_enter Try.func24, Try.ntmps24
    go_wp2_with fail
    refine (l20Ok_any s _ hs).mono ?_
    rintro e w2 ⟨rfl, rfl⟩
    go_wp2_with fail
    refine (l00In_any _ _ _ _).mono ?_
    rintro e w3 ⟨rfl, rfl⟩
    go_wp2_with fail
    go_ret2
    exact ⟨ret2 (by rw [lpVal_no (by rw [H1.out]; decide)]) H1.out.symm, Below.refl _ _⟩
  · have HC : Hid (lpCode s.data.toList x = if lpIdx s.data.toList x = -1 then 3 else 0) := by rw [Hid, lpCode, hok, hin]; rfl
    go_enter Try.func24, Try.ntmps24
    go_wp2_with fail
    refine (l20Ok_any s _ hs).mono ?_
    rintro e w2 ⟨rfl, rfl⟩
    go_wp2_with fail
    refine (l00In_any _ _ _ _).mono ?_
    rintro e w3 ⟨rfl, rfl⟩
    go_wp2_with fail
    go_loopw [6] (fun i wr => ∃ k : Int, 1 ≤ k ∧ k ≤ 7 ∧ i = .int .i64 k ∧ Hid (((List.range 6).take (k - 1).toNat).any (fun j : Nat => decide (fwI s.data.toList (j + 1) ≤ x)) = false) ∧ Below w.heap.size w wr) (fun i _ => (7 - intOf i).toNat)
    case atStart => exact ⟨1, by omega, by omega, rfl, by simp [Hid], Below.refl _ _⟩
    case round =>
      obtain ⟨k, hk0, hk, rfl, he, hb⟩ := hrel
      by_cases hlt : k ≤ 6
      · have hx6 : (List.range 6)[(k - 1).toNat]? = some (k - 1).toNat := by rw [List.getElem?_range (by omega)]
        have HX := Lib.hid hx6
        have hk1 : (k - 1).toNat + 1 = k.toNat := by omega
        have HK := Lib.hid hk1
        have hk2 : (k + 1 - 1).toNat = (k - 1).toNat + 1 := by omega
        have HK2 := Lib.hid hk2
        have HF : Hid (lsVal s.data.toList (bsPlan s.data.toList k.toNat) k = fwI s.data.toList k.toNat) := by rw [Hid, fwI, Int.toNat_of_nonneg (by omega)]
        clear hx6 hk1 hk2
        by_cases q : fwI s.data.toList k.toNat ≤ x
        · have H3 : Hid (lpIdx s.data.toList x = k - 1) := by rw [Hid, lpIdx, idxI_hit he.out HX.out (by rw [HK.out]; simp [q])]; omega
          have H4 : Hid (lpCode s.data.toList x = 0) := by rw [Hid, HC.out, if_neg (by rw [H3.out]; omega)]
          have H5 : Hid (lpVal s.data.toList x = k) := by rw [Hid, lpVal, if_pos H4.out, H3.out]; omega
          go_wp2_with fail
          refine (l20Best_int s k _ hsz hok (by omega) (by omega)).mono ?_
          rintro e w2 ⟨A', n', c', rfl, ho, hb2⟩
          have hsl := ho.sl e1_len
          obtain rfl : n' = s.size := by rw [← hsl.1, bsPlan_len, lenB]
          go_wp2_with fail
          refine (l20Of_int s k A' s.size c' _ _ (by omega) (by omega) (by omega) hsl rfl (by have := plan_rng s.data.toList k.toNat (by omega); rwa [Int.toNat_of_nonneg (by omega)] at this)).mono ?_
          rintro e w3 ⟨rfl, hb3⟩
          have hb4 := below_mid hb (below_step hb2 hb3) hb.size
          rw [HF.out]
          go_wp2_with fail
          go_ret2
          exact ⟨ret2 H5.out.symm H4.out.symm, hb4⟩
        · have HS : Hid (((List.range 6).take (k + 1 - 1).toNat).any (fun j : Nat => decide (fwI s.data.toList (j + 1) ≤ x)) = false) := by rw [Hid, HK2.out, any_step _ HX.out, he.out, HK.out]; simp only [Bool.false_or, decide_eq_false_iff_not]; exact q
          go_wp2_with fail
          refine (l20Best_int s k _ hsz hok (by omega) (by omega)).mono ?_
          rintro e w2 ⟨A', n', c', rfl, ho, hb2⟩
          have hsl := ho.sl e1_len
          obtain rfl : n' = s.size := by rw [← hsl.1, bsPlan_len, lenB]
          go_wp2_with fail
          refine (l20Of_int s k A' s.size c' _ _ (by omega) (by omega) (by omega) hsl rfl (by have := plan_rng s.data.toList k.toNat (by omega); rwa [Int.toNat_of_nonneg (by omega)] at this)).mono ?_
          rintro e w3 ⟨rfl, hb3⟩
          have hb4 := below_mid hb (below_step hb2 hb3) hb.size
          rw [HF.out]
          go_wp2_with fail
          go_roundw
          case rel => exact ⟨k + 1, by omega, by omega, rfl, HS, hb4⟩
          case measure => simp [intOf]; omega
      · have H3 : Hid (lpIdx s.data.toList x = -1) := by rw [Hid, lpIdx, idxI_miss]; have := he.out; rwa [List.take_of_length_le (by rw [List.length_range]; omega)] at this
        have H4 : Hid (lpCode s.data.toList x = 3) := by rw [Hid, HC.out, if_pos H3.out]
        go_wp2_with fail
        go_ret2
        exact ⟨ret2 (by rw [lpVal_no (by rw [H4.out]; decide)]) H4.out.symm, hb⟩

theorem bestLoading_int (s : ByteArray) (p : Int) (w : World) (hs : s.size ≤ 40) (hok : ldOk s.data.toList = true) (h1 : 1 ≤ p) (h6 : p ≤ 6) :
    Calls Try.prog 49 #[.string s, .int .i64 p] w (RetOwn 2 1 e1 (bsPlan s.data.toList p.toNat) w) := by
  obtain ⟨P, rfl⟩ := Int.eq_ofNat_of_zero_le (show 0 ≤ p by omega)
  exact bestLoading_any s P w hs hok (by omega) (by omega)
theorem loadsOf_int (s : ByteArray) (p : Int) (A : Option Addr) (n cp : Nat) (xs : List Int) (w : World) (hs : s.size ≤ 1048576) (h1 : 1 ≤ p) (h6 : p ≤ 6) (h : Sl w 1 e1 A n xs) (hn : n = s.size) (hv : ∀ v ∈ xs, 0 ≤ v ∧ v ≤ p - 1) :
    Calls Try.prog 45 #[.string s, .int .i64 p, .slice A n cp] w fun e w' => e = .returned (.int .i64 (lsVal s.data.toList xs p)) ∧ Below w.heap.size w w' := by
  obtain ⟨P, rfl⟩ := Int.eq_ofNat_of_zero_le (show 0 ≤ p by omega)
  exact loadsOf_any s P A n cp xs w hs (by omega) (by omega) h hn hv

theorem implBestLoading_any (s : ByteArray) (p : Int) (w : World) (hs : s.size ≤ 1048576) (_hp : In64 p) :
    Calls Try.prog 29 #[.string s, .int .i64 p] w (RetOwnC 2 1 e1 (blVal s.data.toList p) (ldCode s.data.toList p) w) := by
  by_cases hz : ldCode s.data.toList p = 0
  · obtain ⟨hok, hp1, hp2⟩ := ldCode_zero hz
    have hsz := ldOk_len hok
    rw [lenB] at hsz
    obtain ⟨P, rfl⟩ := Int.eq_ofNat_of_zero_le (show 0 ≤ p by omega)
    have HV : Hid (blVal s.data.toList P = bsPlan s.data.toList P) := by rw [Hid, blVal, if_pos hz]; rfl
    have HZ := Lib.hid hz
    clear hz
    go_enter Try.func29, Try.ntmps29
    go_wp2_with fail
    refine (showingCode_any s P _ hs).mono ?_
    rintro e w2 ⟨rfl, rfl⟩
    rw [HZ.out]
    go_wp2_with fail
    refine (bestLoading_any s P _ hsz hok (by omega) (by omega)).mono ?_
    rintro e w2 ⟨A', n', c', rfl, ho, hb⟩
    go_wp2_with fail
    go_ret2
    rw [HV.out, HZ.out]
    exact RetOwnC.mk ho hb
  · have hz2 : (ldCode s.data.toList p != 0) = true := by simp [hz]
    have HV : Hid (blVal s.data.toList p = []) := by rw [Hid, blVal, if_neg hz]
    go_enter Try.func29, Try.ntmps29
    go_wp2_with fail
    refine (showingCode_any s p _ hs).mono ?_
    rintro e w2 ⟨rfl, rfl⟩
    go_wp2_with fail
    go_ret2
    rw [HV.out]
    exact RetOwnC.none_ (Below.refl _ _)

theorem implFewestLoads_any (s : ByteArray) (p : Int) (w : World) (hs : s.size ≤ 1048576) (_hp : In64 p) :
    Calls Try.prog 27 #[.string s, .int .i64 p] w fun e w' => e = .returned (.tuple #[.int .i64 (fwVal s.data.toList p), .int .i64 (ldCode s.data.toList p)]) ∧ Below w.heap.size w w' := by
  by_cases hz : ldCode s.data.toList p = 0
  · obtain ⟨hok, hp1, hp2⟩ := ldCode_zero hz
    have hsz := ldOk_len hok
    rw [lenB] at hsz
    obtain ⟨P, rfl⟩ := Int.eq_ofNat_of_zero_le (show 0 ≤ p by omega)
    have HV : Hid (fwVal s.data.toList P = lsVal s.data.toList (bsPlan s.data.toList P) P) := by rw [Hid, fwVal, if_pos hz]; rfl
    have HZ := Lib.hid hz
    clear hz
    go_enter Try.func27, Try.ntmps27
    go_wp2_with fail
    refine (showingCode_any s P _ hs).mono ?_
    rintro e w2 ⟨rfl, rfl⟩
    rw [HZ.out]
    go_wp2_with fail
    refine (bestLoading_any s P _ hsz hok (by omega) (by omega)).mono ?_
    rintro e w2 ⟨A', n', c', rfl, ho, hb⟩
    have hsl := ho.sl e1_len
    obtain rfl : n' = s.size := by rw [← hsl.1, bsPlan_len, lenB]
    go_wp2_with fail
    refine (loadsOf_any s P A' s.size c' _ _ (by omega) (by omega) (by omega) hsl rfl (plan_rng _ P (by omega))).mono ?_
    rintro e w3 ⟨rfl, hb3⟩
    have hb4 := below_step hb hb3
    go_wp2_with fail
    go_ret2
    exact ⟨ret2 HV.out.symm HZ.out.symm, hb4⟩
  · have hz2 : (ldCode s.data.toList p != 0) = true := by simp [hz]
    have HV : Hid (fwVal s.data.toList p = 0) := by rw [Hid, fwVal, if_neg hz]
    go_enter Try.func27, Try.ntmps27
    go_wp2_with fail
    refine (showingCode_any s p _ hs).mono ?_
    rintro e w2 ⟨rfl, rfl⟩
    go_wp2_with fail
    go_ret2
    exact ⟨ret2 HV.out.symm rfl, Below.refl _ _⟩

set_option maxHeartbeats 400000 in
theorem implLeastPlaces_any (s : ByteArray) (x : Int) (w : World) (hs : s.size ≤ 1048576) (_hx : In64 x) :
    Calls Try.prog 25 #[.string s, .int .i64 x] w fun e w' => e = .returned (.tuple #[.int .i64 (lpVal s.data.toList x), .int .i64 (lpCode s.data.toList x)]) ∧ Below w.heap.size w w' := by
  cases hok : ldOk s.data.toList
  · have H1 : Hid (lpCode s.data.toList x = 1) := by rw [Hid, lpCode, hok]; rfl
    go_enter Try.func25, Try.ntmps25
    go_wp2_with fail
    refine (ValidShowing_any s _ hs).mono ?_
    rintro e w2 ⟨rfl, rfl⟩
    go_wp2_with fail
    go_ret2
    exact ⟨ret2 (by rw [lpVal_no (by rw [H1.out]; decide)]) H1.out.symm, Below.refl _ _⟩
  have hsz := ldOk_len hok
  rw [lenB] at hsz
  cases hin : inB x 0 40
  · have H1 : Hid (lpCode s.data.toList x = 2) := by rw [Hid, lpCode, hok, hin]; rfl
    go_enter Try.func25, Try.ntmps25
    go_wp2_with fail
    refine (ValidShowing_any s _ hs).mono ?_
    rintro e w2 ⟨rfl, rfl⟩
    go_wp2_with fail
    refine (within_any _ _ _ _).mono ?_
    rintro e w3 ⟨rfl, rfl⟩
    go_wp2_with fail
    go_ret2
    exact ⟨ret2 (by rw [lpVal_no (by rw [H1.out]; decide)]) H1.out.symm, Below.refl _ _⟩
  · have HC : Hid (lpCode s.data.toList x = if lpIdx s.data.toList x = -1 then 3 else 0) := by rw [Hid, lpCode, hok, hin]; rfl
    go_enter Try.func25, Try.ntmps25
    go_wp2_with fail
    refine (ValidShowing_any s _ hs).mono ?_
    rintro e w2 ⟨rfl, rfl⟩
    go_wp2_with fail
    refine (within_any _ _ _ _).mono ?_
    rintro e w3 ⟨rfl, rfl⟩
    go_wp2_with fail
    go_loopw [6] (fun i wr => ∃ k : Int, 1 ≤ k ∧ k ≤ 7 ∧ i = .int .i64 k ∧ Hid (((List.range 6).take (k - 1).toNat).any (fun j : Nat => decide (fwI s.data.toList (j + 1) ≤ x)) = false) ∧ Below w.heap.size w wr) (fun i _ => (7 - intOf i).toNat)
    case atStart => exact ⟨1, by omega, by omega, rfl, by simp [Hid], Below.refl _ _⟩
    case round =>
      obtain ⟨k, hk0, hk, rfl, he, hb⟩ := hrel
      by_cases hlt : k ≤ 6
      · have hx6 : (List.range 6)[(k - 1).toNat]? = some (k - 1).toNat := by rw [List.getElem?_range (by omega)]
        have HX := Lib.hid hx6
        have hk1 : (k - 1).toNat + 1 = k.toNat := by omega
        have HK := Lib.hid hk1
        have hk2 : (k + 1 - 1).toNat = (k - 1).toNat + 1 := by omega
        have HK2 := Lib.hid hk2
        have HF : Hid (lsVal s.data.toList (bsPlan s.data.toList k.toNat) k = fwI s.data.toList k.toNat) := by rw [Hid, fwI, Int.toNat_of_nonneg (by omega)]
        clear hx6 hk1 hk2
        by_cases q : fwI s.data.toList k.toNat ≤ x
        · have H3 : Hid (lpIdx s.data.toList x = k - 1) := by rw [Hid, lpIdx, idxI_hit he.out HX.out (by rw [HK.out]; simp [q])]; omega
          have H4 : Hid (lpCode s.data.toList x = 0) := by rw [Hid, HC.out, if_neg (by rw [H3.out]; omega)]
          have H5 : Hid (lpVal s.data.toList x = k) := by rw [Hid, lpVal, if_pos H4.out, H3.out]; omega
          go_wp2_with fail
          refine (bestLoading_int s k _ hsz hok (by omega) (by omega)).mono ?_
          rintro e w2 ⟨A', n', c', rfl, ho, hb2⟩
          have hsl := ho.sl e1_len
          obtain rfl : n' = s.size := by rw [← hsl.1, bsPlan_len, lenB]
          go_wp2_with fail
          refine (loadsOf_int s k A' s.size c' _ _ (by omega) (by omega) (by omega) hsl rfl (by have := plan_rng s.data.toList k.toNat (by omega); rwa [Int.toNat_of_nonneg (by omega)] at this)).mono ?_
          rintro e w3 ⟨rfl, hb3⟩
          have hb4 := below_mid hb (below_step hb2 hb3) hb.size
          rw [HF.out]
          go_wp2_with fail
          go_ret2
          exact ⟨ret2 H5.out.symm H4.out.symm, hb4⟩
        · have HS : Hid (((List.range 6).take (k + 1 - 1).toNat).any (fun j : Nat => decide (fwI s.data.toList (j + 1) ≤ x)) = false) := by rw [Hid, HK2.out, any_step _ HX.out, he.out, HK.out]; simp only [Bool.false_or, decide_eq_false_iff_not]; exact q
          go_wp2_with fail
          refine (bestLoading_int s k _ hsz hok (by omega) (by omega)).mono ?_
          rintro e w2 ⟨A', n', c', rfl, ho, hb2⟩
          have hsl := ho.sl e1_len
          obtain rfl : n' = s.size := by rw [← hsl.1, bsPlan_len, lenB]
          go_wp2_with fail
          refine (loadsOf_int s k A' s.size c' _ _ (by omega) (by omega) (by omega) hsl rfl (by have := plan_rng s.data.toList k.toNat (by omega); rwa [Int.toNat_of_nonneg (by omega)] at this)).mono ?_
          rintro e w3 ⟨rfl, hb3⟩
          have hb4 := below_mid hb (below_step hb2 hb3) hb.size
          rw [HF.out]
          go_wp2_with fail
          go_roundw
          case rel => exact ⟨k + 1, by omega, by omega, rfl, HS, hb4⟩
          case measure => simp [intOf]; omega
      · have H3 : Hid (lpIdx s.data.toList x = -1) := by rw [Hid, lpIdx, idxI_miss]; have := he.out; rwa [List.take_of_length_le (by rw [List.length_range]; omega)] at this
        have H4 : Hid (lpCode s.data.toList x = 3) := by rw [Hid, HC.out, if_pos H3.out]
        go_wp2_with fail
        go_ret2
        exact ⟨ret2 (by rw [lpVal_no (by rw [H4.out]; decide)]) H4.out.symm, hb⟩

end Go.Proofs.Ytodfomglhlamoaa
