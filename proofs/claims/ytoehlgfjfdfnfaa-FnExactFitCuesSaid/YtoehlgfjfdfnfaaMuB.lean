/-
  Contracts of the functions on pieces: the least tempo.
-/
import Derived.Test.YtoehlgfjfdfnfaaMuA
namespace Go.Proofs.Ytoehlgfjfdfnfaa
open Go.RowKit

theorem tpGo_hit {m s t : Int} (h : t ≤ 300) (hm : m ≤ s * t) : tpGo m s (301 - t).toNat t = t := by
  obtain ⟨k, hk⟩ : ∃ k : Nat, (301 - t).toNat = k + 1 := ⟨(301 - t).toNat - 1, by omega⟩
  rw [hk, tpGo, if_pos hm]
theorem tpGo_next {m s t : Int} (h : t ≤ 300) (hm : ¬ m ≤ s * t) : tpGo m s (301 - t).toNat t = tpGo m s (301 - (t + 1)).toNat (t + 1) := by
  obtain ⟨k, hk⟩ : ∃ k : Nat, (301 - t).toNat = k + 1 := ⟨(301 - t).toNat - 1, by omega⟩
  have hk2 : (301 - (t + 1)).toNat = k := by omega
  rw [hk, hk2, tpGo, if_neg hm]
theorem tpGo_end {m s t : Int} (h : 300 < t) : tpGo m s (301 - t).toNat t = -1 := by
  have hk : (301 - t).toNat = 0 := by omega
  rw [hk, tpGo]
def tpAll (x : Int × Int × Int) (s : Int) : Int := tpGo (x.1 * x.2.1 * 60) s (301 - 20 : Int).toNat 20
def tpCode (x : Int × Int × Int) (s : Int) : Int := if ptOne x then (if inB s 1 100000 then (if tpAll x s = -1 then 3 else 0) else 2) else 1
def tpVal (x : Int × Int × Int) (s : Int) : Int := if tpCode x s = 0 then tpAll x s else 0
theorem tp_bd {s t : Int} (h1 : 1 ≤ s ∧ s ≤ 100000) (h2 : 20 ≤ t ∧ t ≤ 300) : 0 ≤ s * t ∧ s * t ≤ 30000000 := by
  have a1 : 0 ≤ s * t := Int.mul_nonneg (by omega) (by omega)
  have a2 : s * t ≤ 100000 * 300 := Int.mul_le_mul (by omega) (by omega) (by omega) (by omega)
  omega

end Go.Proofs.Ytoehlgfjfdfnfaa
