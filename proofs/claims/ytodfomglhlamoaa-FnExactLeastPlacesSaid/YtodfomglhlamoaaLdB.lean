/-
  Contracts of the functions on showings: the next index.
-/
import Derived.Test.YtodfomglhlamoaaLdA
import Derived.Lib.IndexBytes
namespace Go.Proofs.Ytodfomglhlamoaa
open Go.RowKit

theorem indexByte_find (l : List UInt8) (c : UInt8) : Lib.indexByte l c = if findB l c = l.length then -1 else (findB l c : Int) := by
  induction l with
  | nil => rfl
  | cons b l ih =>
    rw [Lib.indexByte, findB]
    by_cases h : (b == c) = true
    · simp [h]
    · rw [if_neg h, if_neg h, ih]
      have := findB_le l c
      by_cases h2 : findB l c = l.length
      · simp [h2]
      · rw [if_neg h2]
        have h3 : (((findB l c : Nat) : Int) == -1) = false := by rw [beq_eq_false_iff_ne]; omega
        rw [h3]
        simp
        omega
theorem u8_back (x : UInt8) : ((x.toNat : Int)).toNat.toUInt8 = x := by simp
theorem l20Next_any (s : ByteArray) (c : UInt8) (i : Nat) (w : World) (hs : s.size ≤ 1048576) (hi : i ≤ s.size) :
    Calls Try.prog 37 #[.string s, .int .u8 (c.toNat : Int), .int .i64 i] w fun e w' => e = .returned (.int .i64 ((i + findB (s.data.toList.drop i) c : Nat) : Int)) ∧ w = w' := by
  go_enter Try.func37, Try.ntmps37
  go_wp2
  go_loop [2] (fun v => ∃ k : Nat, i ≤ k ∧ k ≤ s.size ∧ v = .int .i64 k ∧ Hid (i + findB (s.data.toList.drop i) c = k + findB (s.data.toList.drop k) c)) (fun v => s.size - (intOf v).toNat)
  case atStart => exact ⟨i, by omega, hi, rfl, rfl⟩
  case round =>
    obtain ⟨k, hk0, hk, rfl, he⟩ := hrel
    by_cases hlt : k < s.size
    · have hx := Lib.hid (snocB s k hlt)
      cases q : (s[k] == c)
      · have q2 : (((s[k].toNat : Nat) : Int) != ((c.toNat : Nat) : Int)) = true := by rw [byte_ne, q]; rfl
        have HF := Lib.hid (findB_go hx.out q)
        go_wp2_with fail
        go_round
        case rel => exact ⟨k + 1, by omega, by omega, by go_num, by rw [Hid, he.out, HF.out]; omega⟩
        case measure => simp [intOf]; omega
      · have q2 : (((s[k].toNat : Nat) : Int) != ((c.toNat : Nat) : Int)) = false := by rw [byte_ne, q]; rfl
        have HF := Lib.hid (findB_hit hx.out q)
        go_wp2_with fail
        go_ret
        exact ⟨ret_int (by have h1 := he.out; have h2 := HF.out; omega), rfl⟩
    · have : k = s.size := by omega
      subst this
      have HF := Lib.hid (findB_end (l := s.data.toList) (c := c) (k := s.size) (by rw [lenB]; exact Nat.le_refl _))
      go_wp2_with fail
      go_ret
      exact ⟨ret_int (by have h1 := he.out; have h2 := HF.out; omega), rfl⟩

theorem nsCode_eq {l : List UInt8} {k : Nat} {c : UInt8} (hok : ldOk l = true) (hk : k < l.length) (hx : l[k]? = some c) : nsCode l k = if nextOf l k c = l.length then 3 else 0 := by
  rw [nsCode, if_pos hok, if_pos (by rw [inB_true]; omega)]; simp [hx]
theorem nsVal_eq {l : List UInt8} {k : Nat} {c : UInt8} (h : nsCode l k = 0) (hx : l[k]? = some c) : nsVal l k = (nextOf l k c : Int) := by
  rw [nsVal, if_pos h]; simp [hx]

theorem specNextShown_any (s : ByteArray) (a : Int) (w : World) (hs : s.size ≤ 1048576) (_ha : In64 a) :
    Calls Try.prog 14 #[.string s, .int .i64 a] w fun e w' => e = .returned (.tuple #[.int .i64 (nsVal s.data.toList a), .int .i64 (nsCode s.data.toList a)]) ∧ Below w.heap.size w w' := by
  cases hok : ldOk s.data.toList
  · have H1 : Hid (nsCode s.data.toList a = 1) := by rw [Hid, nsCode, hok]; rfl
    go_enter Try.func14, Try.ntmps14
    go_wp2_with fail
    refine (l20Ok_any s _ hs).mono ?_
    rintro e w2 ⟨rfl, rfl⟩
    go_wp2_with fail
    go_ret2
    exact ⟨ret2 (by rw [nsVal, if_neg (by rw [H1.out]; decide)]) H1.out.symm, Below.refl _ _⟩
  · cases hin : inB a 0 (s.size - 1)
    · have H1 : Hid (nsCode s.data.toList a = 2) := by rw [Hid, nsCode, hok, lenB, hin]; rfl
      go_enter Try.func14, Try.ntmps14
      go_wp2_with fail
      refine (l20Ok_any s _ hs).mono ?_
      rintro e w2 ⟨rfl, rfl⟩
      go_wp2_with fail
      refine (l00In_any _ _ _ _).mono ?_
      rintro e w3 ⟨rfl, rfl⟩
      go_wp2_with fail
      go_ret2
      exact ⟨ret2 (by rw [nsVal, if_neg (by rw [H1.out]; decide)]) H1.out.symm, Below.refl _ _⟩
    · have hb := inB_true.1 hin
      obtain ⟨k, rfl⟩ := Int.eq_ofNat_of_zero_le hb.1
      have hlt : k < s.size := by omega
      have hx := Lib.hid (snocB s k hlt)
      have HC := Lib.hid (nsCode_eq hok (by rw [lenB]; exact hlt) hx.out)
      have HN : Hid (((k + 1 + findB (s.data.toList.drop (k + 1)) s[k] : Nat) : Int) = ((nextOf s.data.toList k s[k] : Nat) : Int)) := rfl
      have hle : nextOf s.data.toList k s[k] ≤ s.size := by
        have := findB_le (s.data.toList.drop (k + 1)) s[k]
        rw [List.length_drop, lenB] at this
        unfold nextOf; omega
      have hge : k + 1 ≤ nextOf s.data.toList k s[k] := by unfold nextOf; omega
      generalize hX : nextOf s.data.toList k s[k] = X at HN HC hle hge
      have HX := Lib.hid hX
      clear hX
      by_cases q : X = s.size
      · have H1 : Hid (nsCode s.data.toList k = 3) := by rw [Hid, HC.out, lenB, if_pos q]
        have HI : Hid (Lib.indexByte (s.extract (k + 1) s.size).data.toList ((s[k].toNat : Int)).toNat.toUInt8 = -1) := by
          rw [Hid, u8_back, Lib.extract_to_end, indexByte_find, if_pos]
          have := HX.out; unfold nextOf at this
          rw [List.length_drop, lenB]; omega
        go_enter Try.func14, Try.ntmps14
        go_wp2_with fail
        refine (l20Ok_any s _ hs).mono ?_
        rintro e w2 ⟨rfl, rfl⟩
        go_wp2_with fail
        refine (l00In_any _ _ _ _).mono ?_
        rintro e w3 ⟨rfl, rfl⟩
        go_wp2_with fail
        refine (l20Next_any s s[k] (k + 1) _ hs (by omega)).mono ?_
        rintro e w4 ⟨rfl, rfl⟩
        rw [HN.out]
        go_wp2_with fail
        go_ret2
        exact ⟨ret2 (by rw [nsVal, if_neg (by rw [H1.out]; decide)]) H1.out.symm, Below.refl _ _⟩
      · have H1 : Hid (nsCode s.data.toList k = 0) := by rw [Hid, HC.out, lenB, if_neg q]
        have H2 : Hid (nsVal s.data.toList k = X) := by rw [Hid, nsVal_eq H1.out hx.out, HX.out]
        have HI : Hid (Lib.indexByte (s.extract (k + 1) s.size).data.toList ((s[k].toNat : Int)).toNat.toUInt8 = (X : Int) - k - 1) := by
          have := HX.out; unfold nextOf at this
          rw [Hid, u8_back, Lib.extract_to_end, indexByte_find, if_neg]
          · omega
          · rw [List.length_drop, lenB]; omega
        go_enter Try.func14, Try.ntmps14
        go_wp2_with fail
        refine (l20Ok_any s _ hs).mono ?_
        rintro e w2 ⟨rfl, rfl⟩
        go_wp2_with fail
        refine (l00In_any _ _ _ _).mono ?_
        rintro e w3 ⟨rfl, rfl⟩
        go_wp2_with fail
        refine (l20Next_any s s[k] (k + 1) _ hs (by omega)).mono ?_
        rintro e w4 ⟨rfl, rfl⟩
        rw [HN.out]
        go_wp2_with fail
        go_ret2
        exact ⟨ret2 (by rw [H2.out]; try go_num) H1.out.symm, Below.refl _ _⟩

theorem implNextShown_any (s : ByteArray) (a : Int) (w : World) (hs : s.size ≤ 1048576) (_ha : In64 a) :
    Calls Try.prog 15 #[.string s, .int .i64 a] w fun e w' => e = .returned (.tuple #[.int .i64 (nsVal s.data.toList a), .int .i64 (nsCode s.data.toList a)]) ∧ Below w.heap.size w w' := by
  cases hok : ldOk s.data.toList
  · have H1 : Hid (nsCode s.data.toList a = 1) := by rw [Hid, nsCode, hok]; rfl
    go_enter Try.func15, Try.ntmps15
    go_wp2_with fail
    refine (ValidShowing_any s _ hs).mono ?_
    rintro e w2 ⟨rfl, rfl⟩
    go_wp2_with fail
    go_ret2
    exact ⟨ret2 (by rw [nsVal, if_neg (by rw [H1.out]; decide)]) H1.out.symm, Below.refl _ _⟩
  · cases hin : inB a 0 (s.size - 1)
    · have H1 : Hid (nsCode s.data.toList a = 2) := by rw [Hid, nsCode, hok, lenB, hin]; rfl
      go_enter Try.func15, Try.ntmps15
      go_wp2_with fail
      refine (ValidShowing_any s _ hs).mono ?_
      rintro e w2 ⟨rfl, rfl⟩
      go_wp2_with fail
      refine (within_any _ _ _ _).mono ?_
      rintro e w3 ⟨rfl, rfl⟩
      go_wp2_with fail
      go_ret2
      exact ⟨ret2 (by rw [nsVal, if_neg (by rw [H1.out]; decide)]) H1.out.symm, Below.refl _ _⟩
    · have hb := inB_true.1 hin
      obtain ⟨k, rfl⟩ := Int.eq_ofNat_of_zero_le hb.1
      have hlt : k < s.size := by omega
      have hx := Lib.hid (snocB s k hlt)
      have HC := Lib.hid (nsCode_eq hok (by rw [lenB]; exact hlt) hx.out)
      have HN : Hid (((k + 1 + findB (s.data.toList.drop (k + 1)) s[k] : Nat) : Int) = ((nextOf s.data.toList k s[k] : Nat) : Int)) := rfl
      have hle : nextOf s.data.toList k s[k] ≤ s.size := by
        have := findB_le (s.data.toList.drop (k + 1)) s[k]
        rw [List.length_drop, lenB] at this
        unfold nextOf; omega
      have hge : k + 1 ≤ nextOf s.data.toList k s[k] := by unfold nextOf; omega
      generalize hX : nextOf s.data.toList k s[k] = X at HN HC hle hge
      have HX := Lib.hid hX
      clear hX
      by_cases q : X = s.size
      · have H1 : Hid (nsCode s.data.toList k = 3) := by rw [Hid, HC.out, lenB, if_pos q]
        have HI : Hid (Lib.indexByte (s.extract (k + 1) s.size).data.toList ((s[k].toNat : Int)).toNat.toUInt8 = -1) := by
          rw [Hid, u8_back, Lib.extract_to_end, indexByte_find, if_pos]
          have := HX.out; unfold nextOf at this
          rw [List.length_drop, lenB]; omega
        go_enter Try.func15, Try.ntmps15
        go_wp2_with fail
        refine (ValidShowing_any s _ hs).mono ?_
        rintro e w2 ⟨rfl, rfl⟩
        go_wp2_with fail
        refine (within_any _ _ _ _).mono ?_
        rintro e w3 ⟨rfl, rfl⟩
        have r1 : IntKind.i64.wrap ((k : Int) + 1) = (k : Int) + 1 := wr64 (by omega)
        have g1 : (0 : Int) ≤ (k : Int) + 1 := by omega
        have g2 : (k : Int) + 1 ≤ (s.size : Int) := by omega
        have g3 : (k : Int) < (s.size : Int) := by omega
        go_wp2_with fail
        go_still_tail 7, (by kernel_rfl)
        clear r1
        change wpList _ _ _ _ _ w.drew
        go_wp2_with fail
        refine (IndexByte_any _ _ _).mono ?_
        rintro e w4 ⟨rfl, rfl⟩
        rw [HI.out]
        go_wp2_with fail
        go_ret2
        exact ⟨ret2 (by rw [nsVal, if_neg (by rw [H1.out]; decide)]) H1.out.symm, (Below.refl _ _).drew⟩
      · have H1 : Hid (nsCode s.data.toList k = 0) := by rw [Hid, HC.out, lenB, if_neg q]
        have H2 : Hid (nsVal s.data.toList k = X) := by rw [Hid, nsVal_eq H1.out hx.out, HX.out]
        have HI : Hid (Lib.indexByte (s.extract (k + 1) s.size).data.toList ((s[k].toNat : Int)).toNat.toUInt8 = (X : Int) - k - 1) := by
          have := HX.out; unfold nextOf at this
          rw [Hid, u8_back, Lib.extract_to_end, indexByte_find, if_neg]
          · omega
          · rw [List.length_drop, lenB]; omega
        go_enter Try.func15, Try.ntmps15
        go_wp2_with fail
        refine (ValidShowing_any s _ hs).mono ?_
        rintro e w2 ⟨rfl, rfl⟩
        go_wp2_with fail
        refine (within_any _ _ _ _).mono ?_
        rintro e w3 ⟨rfl, rfl⟩
        have r1 : IntKind.i64.wrap ((k : Int) + 1) = (k : Int) + 1 := wr64 (by omega)
        have g1 : (0 : Int) ≤ (k : Int) + 1 := by omega
        have g2 : (k : Int) + 1 ≤ (s.size : Int) := by omega
        have g3 : (k : Int) < (s.size : Int) := by omega
        go_wp2_with fail
        go_still_tail 7, (by kernel_rfl)
        clear r1
        change wpList _ _ _ _ _ w.drew
        go_wp2_with fail
        refine (IndexByte_any _ _ _).mono ?_
        rintro e w4 ⟨rfl, rfl⟩
        rw [HI.out]
        go_wp2_with fail
        go_ret2
        exact ⟨ret2 (by rw [H2.out]; try go_num) H1.out.symm, (Below.refl _ _).drew⟩

end Go.Proofs.Ytodfomglhlamoaa
