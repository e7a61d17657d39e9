/-
  Contracts of the functions on showings: the best plan (the reference).
-/
import Derived.Test.YthplfodfilefjaaLdD
import Derived.Test.YthplfodfilefjaaLm
namespace Go.Proofs.Ythplfodfilefjaa
open Go.RowKit

theorem byte_z (y : UInt8) : (((y.toNat : Nat) : Int) != 0) = !(y == 0) := by
  have := byte_ne y 0
  simpa using this
def fiI (m : List UInt8) (c : UInt8) : Int := if findB m c < m.length then (findB m c : Int) else -1
theorem Index_any (A : Option Addr) (n cp : Nat) (m : List UInt8) (c : UInt8) (w : World) (h : Sl w 1 eB A n m) (hn : n ≤ 1048577) :
    Calls Try.prog 14 #[.slice A n cp, .int .u8 (c.toNat : Int)] w fun e w' => e = .returned (.int .i64 (fiI m c)) ∧ w = w' := by
  have hl := h.1
  have HL := Lib.hid hl
  go_enter Try.func14, Try.ntmps14
  go_wp2
  go_loop [8] (fun i => ∃ k : Nat, k ≤ n ∧ i = .int .i64 k ∧ Hid (∀ j, j < k → ∀ x, m[j]? = some x → x ≠ c)) (fun i => n - (intOf i).toNat)
  case atStart => exact ⟨0, by omega, rfl, by intro j hj; omega⟩
  case round =>
    obtain ⟨k, hk, rfl, he⟩ := hrel
    by_cases hlt : k < n
    · obtain ⟨b, off, x, rfl, hx, hm, c0⟩ := h.atB hlt
      cases q : (c == x)
      · have q2 : (((c.toNat : Nat) : Int) == ((x.toNat : Nat) : Int)) = false := by rw [byte_eq, q]
        have HS : Hid (∀ j, j < k + 1 → ∀ y, m[j]? = some y → y ≠ c) := by
          intro j hj y hy
          by_cases h1 : j < k
          · exact he.out j h1 y hy
          · have : j = k := by omega
            subst this
            rw [hx] at hy; injection hy with hy; subst hy
            intro h2; subst h2; simp at q
        go_wp2_with fail
        go_round
        case rel => exact ⟨k + 1, by omega, by go_num, HS⟩
        case measure => simp [intOf]; omega
      · have q2 : (((c.toNat : Nat) : Int) == ((x.toNat : Nat) : Int)) = true := by rw [byte_eq, q]
        have HR : Hid (fiI m c = k) := by
          have h1 := beq_iff_eq.1 q; subst h1
          have h2 := findB_first hx he.out
          rw [Hid, fiI, if_pos (by rw [h2]; omega), h2]
        go_wp2_with fail
        go_ret
        exact ⟨ret_int HR.out.symm, rfl⟩
    · have : k = n := by omega
      subst this
      have HR : Hid (fiI m c = -1) := by
        rw [Hid, fiI, if_neg]
        intro h1
        exact he.out _ (by have := HL.out; omega) c (findB_lt h1) rfl
      go_wp2_with fail
      go_ret
      exact ⟨ret_int HR.out.symm, rfl⟩
theorem fiI_yes {m : List UInt8} {c : UInt8} (h : findB m c < m.length) : fiI m c = findB m c := by rw [fiI, if_pos h]
theorem fiI_no {m : List UInt8} {c : UInt8} (h : ¬ findB m c < m.length) : fiI m c = -1 := by rw [fiI, if_neg h]

end Go.Proofs.Ythplfodfilefjaa
