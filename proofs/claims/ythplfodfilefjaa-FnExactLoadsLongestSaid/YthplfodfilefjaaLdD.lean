/-
  Contracts of the functions on showings: LoadsOf.
-/
import Derived.Test.YthplfodfilefjaaLdC
namespace Go.Proofs.Ythplfodfilefjaa
open Go.RowKit

theorem ldCode_zero {l : List UInt8} {p : Int} (h : ldCode l p = 0) : ldOk l = true ∧ 1 ≤ p ∧ p ≤ 6 := by
  unfold ldCode at h
  cases h1 : ldOk l <;> cases h2 : inB p 1 6 <;> simp_all
  exact inB_true.1 h2
theorem ldOk_len {l : List UInt8} (h : ldOk l = true) : l.length ≤ 40 := by
  unfold ldOk at h
  simp at h
  exact h.2
theorem plOk_iff {pl : List Int} {p : Int} : plOk pl p = true ↔ ∀ v ∈ pl, 0 ≤ v ∧ v ≤ p - 1 := by
  unfold plOk
  rw [List.all_eq_true]
  exact ⟨fun h v hv => inB_true.1 (h v hv), fun h v hv => inB_true.2 (h v hv)⟩
theorem loCode_bad {l : List UInt8} {p : Int} {pl : List Int} (h : ¬ ldCode l p = 0) : loCode l p pl = ldCode l p := by rw [loCode, if_neg h]
theorem loCode_len {l : List UInt8} {p : Int} {pl : List Int} (h : ldCode l p = 0) (h2 : ¬ pl.length = l.length) : loCode l p pl = 2 := by rw [loCode, if_pos h, if_neg h2]
theorem loCode_pl {l : List UInt8} {p : Int} {pl : List Int} (h : ldCode l p = 0) (h2 : pl.length = l.length) : loCode l p pl = if plOk pl p then 0 else 2 := by rw [loCode, if_pos h, if_pos h2]
theorem loVal_no {l : List UInt8} {p : Int} {pl : List Int} (h : ¬ loCode l p pl = 0) : loVal l p pl = 0 := by rw [loVal, if_neg h]

end Go.Proofs.Ythplfodfilefjaa
