/-
  Contracts of the functions on showings: the next index.
-/
import Derived.Test.YtcfbnlkkoifiiaaLdA
import Derived.Lib.IndexBytes
namespace Go.Proofs.Ytcfbnlkkoifiiaa
open Go.RowKit

theorem indexByte_find (l : List UInt8) (c : UInt8) : Lib.indexByte l c = if findB l c = l.length then -1 else (findB l c : Int) := by
  induction l with
  | nil => rfl
  | cons b l ih =>
    rw [Lib.indexByte, findB]
    by_cases h : (b == c) = true
    · simp [h]
    · rw [if_neg h, if_neg h, ih]
      have := findB_le l c
      by_cases h2 : findB l c = l.length
      · simp [h2]
      · rw [if_neg h2]
        have h3 : (((findB l c : Nat) : Int) == -1) = false := by rw [beq_eq_false_iff_ne]; omega
        rw [h3]
        simp
        omega
theorem u8_back (x : UInt8) : ((x.toNat : Int)).toNat.toUInt8 = x := by simp
theorem l20Next_any (s : ByteArray) (c : UInt8) (i : Nat) (w : World) (hs : s.size ≤ 1048576) (hi : i ≤ s.size) :
    Calls Try.prog 26 #[.string s, .int .u8 (c.toNat : Int), .int .i64 i] w fun e w' => e = .returned (.int .i64 ((i + findB (s.data.toList.drop i) c : Nat) : Int)) ∧ w = w' := by
  go_enter Try.func26, Try.ntmps26
  go_wp2
  go_loop [2] (fun v => ∃ k : Nat, i ≤ k ∧ k ≤ s.size ∧ v = .int .i64 k ∧ Hid (i + findB (s.data.toList.drop i) c = k + findB (s.data.toList.drop k) c)) (fun v => s.size - (intOf v).toNat)
  case atStart => exact ⟨i, by omega, hi, rfl, rfl⟩
  case round =>
    obtain ⟨k, hk0, hk, rfl, he⟩ := hrel
    by_cases hlt : k < s.size
    · have hx := Lib.hid (snocB s k hlt)
      cases q : (s[k] == c)
      · have q2 : (((s[k].toNat : Nat) : Int) != ((c.toNat : Nat) : Int)) = true := by rw [byte_ne, q]; rfl
        have HF := Lib.hid (findB_go hx.out q)
        go_wp2_with fail
        go_round
        case rel => exact ⟨k + 1, by omega, by omega, by go_num, by rw [Hid, he.out, HF.out]; omega⟩
        case measure => simp [intOf]; omega
      · have q2 : (((s[k].toNat : Nat) : Int) != ((c.toNat : Nat) : Int)) = false := by rw [byte_ne, q]; rfl
        have HF := Lib.hid (findB_hit hx.out q)
        go_wp2_with fail
        go_ret
        exact ⟨ret_int (by have h1 := he.out; have h2 := HF.out; omega), rfl⟩
    · have : k = s.size := by omega
      subst this
      have HF := Lib.hid (findB_end (l := s.data.toList) (c := c) (k := s.size) (by rw [lenB]; exact Nat.le_refl _))
      go_wp2_with fail
      go_ret
      exact ⟨ret_int (by have h1 := he.out; have h2 := HF.out; omega), rfl⟩

theorem nsCode_eq {l : List UInt8} {k : Nat} {c : UInt8} (hok : ldOk l = true) (hk : k < l.length) (hx : l[k]? = some c) : nsCode l k = if nextOf l k c = l.length then 3 else 0 := by
  rw [nsCode, if_pos hok, if_pos (by rw [inB_true]; omega)]; simp [hx]
theorem nsVal_eq {l : List UInt8} {k : Nat} {c : UInt8} (h : nsCode l k = 0) (hx : l[k]? = some c) : nsVal l k = (nextOf l k c : Int) := by
  rw [nsVal, if_pos h]; simp [hx]

end Go.Proofs.Ytcfbnlkkoifiiaa
