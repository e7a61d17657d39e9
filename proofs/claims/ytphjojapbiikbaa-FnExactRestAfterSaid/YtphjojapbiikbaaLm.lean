/-
  Lamps, in plain mathematics: (heats, cools, limit).
-/
import Derived.Test.YtphjojapbiikbaaMath
namespace Go.Proofs.Ytphjojapbiikbaa
def lampOk (x : Int × Int × Int) : Bool := inB x.1 1 20 && inB x.2.1 1 20 && inB x.2.2 1 100
theorem lampOk_iff {x : Int × Int × Int} : lampOk x = true ↔ 1 ≤ x.1 ∧ x.1 ≤ 20 ∧ 1 ≤ x.2.1 ∧ x.2.1 ≤ 20 ∧ 1 ≤ x.2.2 ∧ x.2.2 ≤ 100 := by
  unfold lampOk; simp only [Bool.and_eq_true, inB_true, and_assoc]
def burnVal (x : Int × Int × Int) : Int := if lampOk x then x.2.2 / x.1 else 0
def burnCode (x : Int × Int × Int) : Int := if lampOk x then 0 else 1
def restCode (x : Int × Int × Int) (b : Int) : Int := if lampOk x then (if inB b 0 100 then (if x.2.2 / x.1 < b then 6 else 0) else 2) else 1
def restVal (x : Int × Int × Int) (b : Int) : Int := if restCode x b = 0 then (b * x.1 + x.2.1 - 1) / x.2.1 else 0
end Go.Proofs.Ytphjojapbiikbaa
