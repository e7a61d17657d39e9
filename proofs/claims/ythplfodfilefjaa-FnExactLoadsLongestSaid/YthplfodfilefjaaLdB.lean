/-
  Contracts of the functions on showings: the next index.
-/
import Derived.Test.YthplfodfilefjaaLdA
import Derived.Lib.IndexBytes
namespace Go.Proofs.Ythplfodfilefjaa
open Go.RowKit

theorem indexByte_find (l : List UInt8) (c : UInt8) : Lib.indexByte l c = if findB l c = l.length then -1 else (findB l c : Int) := by
  induction l with
  | nil => rfl
  | cons b l ih =>
    rw [Lib.indexByte, findB]
    by_cases h : (b == c) = true
    · simp [h]
    · rw [if_neg h, if_neg h, ih]
      have := findB_le l c
      by_cases h2 : findB l c = l.length
      · simp [h2]
      · rw [if_neg h2]
        have h3 : (((findB l c : Nat) : Int) == -1) = false := by rw [beq_eq_false_iff_ne]; omega
        rw [h3]
        simp
        omega
theorem u8_back (x : UInt8) : ((x.toNat : Int)).toNat.toUInt8 = x := by simp
theorem nsCode_eq {l : List UInt8} {k : Nat} {c : UInt8} (hok : ldOk l = true) (hk : k < l.length) (hx : l[k]? = some c) : nsCode l k = if nextOf l k c = l.length then 3 else 0 := by
  rw [nsCode, if_pos hok, if_pos (by rw [inB_true]; omega)]; simp [hx]
theorem nsVal_eq {l : List UInt8} {k : Nat} {c : UInt8} (h : nsCode l k = 0) (hx : l[k]? = some c) : nsVal l k = (nextOf l k c : Int) := by
  rw [nsVal, if_pos h]; simp [hx]

end Go.Proofs.Ythplfodfilefjaa
