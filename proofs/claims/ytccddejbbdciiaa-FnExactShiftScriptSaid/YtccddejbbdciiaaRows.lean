/-
  No cell of these rows narrows 'for every input' (looked for: loops, veiled, ifaces, maps, wideKeys, modest, calm, conditions, laid).
  DERIVED. THE GIVEN ROWS OF THIS SEAT. 3 by the template 'for every input the law returns true; each argument reads behind the call as it read before'; 0 by the template 'total and deterministic' (their statements: YtccddejbbdciiaaTotals.lean).
  GIVEN WITH THE SEED: the statements are not yours to turn. If you find one false, say at which input.
  Laid BY PROGRAM, IN A SANDBOX (cutbox-rows.mjs): the forced cells as the released guide's own fill.sh prints them over the translation d8d731979a2fcd6b… (all of the seat's roots in one cut). By AI agents, Wed Nov 11 2026. No macro, syntax, notation, axiom, sorry.
-/
import Derived.Test.YtccddejbbdciiaaChecked
import GoSem.Claim
import GoSem.ClaimJoined
import GoSem.ClaimMapViews
import Derived.JoinedTies
import Derived.KernelRfl
namespace Go.Proofs.Ytccddejbbdciiaa
/- THE CELL 'sum', in the pinned program and in every row, IS THE sha256 OF THE DUMP (.gsa) THAT YtccddejbbdciiaaProg.lean LOADS. Nothing in Lean hashes anything: it is a label: what it is worth is what the hold of that sum in a sandbox is worth. -/
noncomputable def Try.pinned : Pinned := { name := "ytccddejbbdciiaa", sum := "d8d731979a2fcd6b1db055ceb8e81bf550f3aba952b30e65109ddd4c240847d8", checked := Try.checked }
namespace Rows
def none {H : Type} : Left H := { results := [], args := [] }

/-- 'laws.FnExactShownAt': WHATEVER THE INPUT: true; the input reads as it did. -/
def fnExactShownAtSpec : ChangeSpec := { name := "fnExactShownAt", fn := fun _ => fun
  | [d1, d2] => { results := [.lit (.bool true)], args := [d1, d2] }
  | _ => none }
def fnExactShownAtRow : OpenClaim := { program := "ytccddejbbdciiaa", sum := "d8d731979a2fcd6b1db055ceb8e81bf550f3aba952b30e65109ddd4c240847d8", func := "loop.example/g01063/laws.FnExactShownAt", spec := "fnExactShownAt", apart := false }
def FnExactShownAtSaid : Prop := fnExactShownAtRow.holds Try.pinned (OpenSpec.ofChange fnExactShownAtSpec)

/-- ITS FALSE NEIGHBOUR: 'it returns false'. Refute it at one input. -/
def fnExactShownAtWrong : ChangeSpec := { name := "fnExactShownAt", fn := fun _ => fun
  | [d1, d2] => { results := [.lit (.bool false)], args := [d1, d2] }
  | _ => none }
def FnExactShownAtWrongFalsely : Prop := fnExactShownAtRow.holds Try.pinned (OpenSpec.ofChange fnExactShownAtWrong)

/-- 'laws.FnExactNeverShown': WHATEVER THE INPUT: true; the input reads as it did. -/
def fnExactNeverShownSpec : ChangeSpec := { name := "fnExactNeverShown", fn := fun _ => fun
  | [d] => { results := [.lit (.bool true)], args := [d] }
  | _ => none }
def fnExactNeverShownRow : OpenClaim := { program := "ytccddejbbdciiaa", sum := "d8d731979a2fcd6b1db055ceb8e81bf550f3aba952b30e65109ddd4c240847d8", func := "loop.example/g01063/laws.FnExactNeverShown", spec := "fnExactNeverShown", unfollowed := true, recurses := true, apart := false }
def FnExactNeverShownSaid : Prop := fnExactNeverShownRow.holds Try.pinned (OpenSpec.ofChange fnExactNeverShownSpec)

/-- ITS FALSE NEIGHBOUR: 'it returns false'. Refute it at one input. -/
def fnExactNeverShownWrong : ChangeSpec := { name := "fnExactNeverShown", fn := fun _ => fun
  | [d] => { results := [.lit (.bool false)], args := [d] }
  | _ => none }
def FnExactNeverShownWrongFalsely : Prop := fnExactNeverShownRow.holds Try.pinned (OpenSpec.ofChange fnExactNeverShownWrong)

/-- 'laws.FnExactShiftScript': WHATEVER THE INPUT: true; the input reads as it did. -/
def fnExactShiftScriptSpec : ChangeSpec := { name := "fnExactShiftScript", fn := fun _ => fun
  | [d1, d2] => { results := [.lit (.bool true)], args := [d1, d2] }
  | _ => none }
def fnExactShiftScriptRow : OpenClaim := { program := "ytccddejbbdciiaa", sum := "d8d731979a2fcd6b1db055ceb8e81bf550f3aba952b30e65109ddd4c240847d8", func := "loop.example/g01063/laws.FnExactShiftScript", spec := "fnExactShiftScript", apart := false }
def FnExactShiftScriptSaid : Prop := fnExactShiftScriptRow.holds Try.pinned (OpenSpec.ofChange fnExactShiftScriptSpec)

/-- ITS FALSE NEIGHBOUR: 'it returns false'. Refute it at one input. -/
def fnExactShiftScriptWrong : ChangeSpec := { name := "fnExactShiftScript", fn := fun _ => fun
  | [d1, d2] => { results := [.lit (.bool false)], args := [d1, d2] }
  | _ => none }
def FnExactShiftScriptWrongFalsely : Prop := fnExactShiftScriptRow.holds Try.pinned (OpenSpec.ofChange fnExactShiftScriptWrong)

/- THE SECOND FORM. 'bulk': how many values and letters a reading holds, each counted each time it is reached (what is shared counts as often as it is met; a slice's spare places count too). A statement '..UptoSaid' is the law's where the arguments, and the package variables that the reading takes, are together of bulk at most 1048576: NARROWER than '..Said'. Prove '..Said' where nothing that the law and all that it calls make is longer than what came in: it says more and counts as full. Else prove '..UptoSaid'. A law counts once. -/
mutual
def uptoBulk {H : Type} : DataW H → Nat
  | .lit (.string bytes) => bytes.length + 1
  | .lit _ => 1
  | .nil => 1
  | .ptr d => uptoBulk d + 1
  | .slice elems spare => uptoBulkAll elems + uptoBulkAll spare + 1
  | .agg parts => uptoBulkAll parts + 1
  | .iface _ d => uptoBulk d + 1
  | .map entries => uptoBulkEntries entries + 1
  | .held _ => 1
def uptoBulkAll {H : Type} : List (DataW H) → Nat
  | [] => 0
  | d :: r => uptoBulk d + uptoBulkAll r
def uptoBulkEntries {H : Type} : List (Lit × DataW H) → Nat
  | [] => 0
  | x :: r => uptoBulkEntry x + uptoBulkEntries r
def uptoBulkEntry {H : Type} : Lit × DataW H → Nat
  | (.string bytes, d) => bytes.length + uptoBulk d + 1
  | (_, d) => uptoBulk d + 1
 end
def uptoSmall : (H : Type) → List (DataW H) → Bool := fun _ ds => decide (uptoBulkAll ds ≤ 1048576)
def OpenSpec.upto (s : _root_.Go.ChangeSpec) : _root_.Go.OpenSpec := { _root_.Go.OpenSpec.ofChange s with cond := some uptoSmall }

/-- 'laws.FnExactShownAt', WHERE WHAT IT READS IS OF BULK AT MOST 1048576: true; the input reads as it did. -/
def fnExactShownAtUptoRow : OpenClaim := { program := "ytccddejbbdciiaa", sum := "d8d731979a2fcd6b1db055ceb8e81bf550f3aba952b30e65109ddd4c240847d8", func := "loop.example/g01063/laws.FnExactShownAt", spec := "fnExactShownAt", apart := false, narrowed := true }
def FnExactShownAtUptoSaid : Prop := fnExactShownAtUptoRow.holds Try.pinned (OpenSpec.upto fnExactShownAtSpec)

/-- 'laws.FnExactNeverShown', WHERE WHAT IT READS IS OF BULK AT MOST 1048576: true; the input reads as it did. -/
def fnExactNeverShownUptoRow : OpenClaim := { program := "ytccddejbbdciiaa", sum := "d8d731979a2fcd6b1db055ceb8e81bf550f3aba952b30e65109ddd4c240847d8", func := "loop.example/g01063/laws.FnExactNeverShown", spec := "fnExactNeverShown", unfollowed := true, recurses := true, apart := false, narrowed := true }
def FnExactNeverShownUptoSaid : Prop := fnExactNeverShownUptoRow.holds Try.pinned (OpenSpec.upto fnExactNeverShownSpec)

/-- 'laws.FnExactShiftScript', WHERE WHAT IT READS IS OF BULK AT MOST 1048576: true; the input reads as it did. -/
def fnExactShiftScriptUptoRow : OpenClaim := { program := "ytccddejbbdciiaa", sum := "d8d731979a2fcd6b1db055ceb8e81bf550f3aba952b30e65109ddd4c240847d8", func := "loop.example/g01063/laws.FnExactShiftScript", spec := "fnExactShiftScript", apart := false, narrowed := true }
def FnExactShiftScriptUptoSaid : Prop := fnExactShiftScriptUptoRow.holds Try.pinned (OpenSpec.upto fnExactShiftScriptSpec)

end Rows
end Go.Proofs.Ytccddejbbdciiaa
