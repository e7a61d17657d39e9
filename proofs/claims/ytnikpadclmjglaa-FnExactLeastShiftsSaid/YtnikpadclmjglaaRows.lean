/-
  No cell of these rows narrows 'for every input' (looked for: loops, veiled, ifaces, maps, wideKeys, modest, calm, conditions, laid).
  DERIVED. THE GIVEN ROWS OF THIS SEAT. 4 by the template 'for every input the law returns true; each argument reads behind the call as it read before'; 0 by the template 'total and deterministic' (their statements: YtnikpadclmjglaaTotals.lean).
  GIVEN WITH THE SEED: the statements are not yours to turn. If you find one false, say at which input.
  Laid BY PROGRAM, IN A SANDBOX (cutbox-rows.mjs): the forced cells as the released guide's own fill.sh prints them over the translation 1399899ab2cf5454… (all of the seat's roots in one cut). By AI agents, Wed Nov 11 2026. No macro, syntax, notation, axiom, sorry.
-/
import Derived.Test.YtnikpadclmjglaaChecked
import GoSem.Claim
import GoSem.ClaimJoined
import GoSem.ClaimMapViews
import Derived.JoinedTies
import Derived.KernelRfl
namespace Go.Proofs.Ytnikpadclmjglaa
/- THE CELL 'sum', in the pinned program and in every row, IS THE sha256 OF THE DUMP (.gsa) THAT YtnikpadclmjglaaProg.lean LOADS. Nothing in Lean hashes anything: it is a label: what it is worth is what the hold of that sum in a sandbox is worth. -/
noncomputable def Try.pinned : Pinned := { name := "ytnikpadclmjglaa", sum := "1399899ab2cf545482a4bf299dd72ca94e09f3d66a9851eb329deec03e88aa93", checked := Try.checked }
namespace Rows
def none {H : Type} : Left H := { results := [], args := [] }

/-- 'laws.FnExactHandsWithSlack': WHATEVER THE INPUT: true; the input reads as it did. -/
def fnExactHandsWithSlackSpec : ChangeSpec := { name := "fnExactHandsWithSlack", fn := fun _ => fun
  | [d] => { results := [.lit (.bool true)], args := [d] }
  | _ => none }
def fnExactHandsWithSlackRow : OpenClaim := { program := "ytnikpadclmjglaa", sum := "1399899ab2cf545482a4bf299dd72ca94e09f3d66a9851eb329deec03e88aa93", func := "loop.example/g01063/laws.FnExactHandsWithSlack", spec := "fnExactHandsWithSlack", unfollowed := true, recurses := true, apart := false }
def FnExactHandsWithSlackSaid : Prop := fnExactHandsWithSlackRow.holds Try.pinned (OpenSpec.ofChange fnExactHandsWithSlackSpec)

/-- ITS FALSE NEIGHBOUR: 'it returns false'. Refute it at one input. -/
def fnExactHandsWithSlackWrong : ChangeSpec := { name := "fnExactHandsWithSlack", fn := fun _ => fun
  | [d] => { results := [.lit (.bool false)], args := [d] }
  | _ => none }
def FnExactHandsWithSlackWrongFalsely : Prop := fnExactHandsWithSlackRow.holds Try.pinned (OpenSpec.ofChange fnExactHandsWithSlackWrong)

/-- 'laws.FnExactLeastShifts': WHATEVER THE INPUT: true; the input reads as it did. -/
def fnExactLeastShiftsSpec : ChangeSpec := { name := "fnExactLeastShifts", fn := fun _ => fun
  | [d1, d2] => { results := [.lit (.bool true)], args := [d1, d2] }
  | _ => none }
def fnExactLeastShiftsRow : OpenClaim := { program := "ytnikpadclmjglaa", sum := "1399899ab2cf545482a4bf299dd72ca94e09f3d66a9851eb329deec03e88aa93", func := "loop.example/g01063/laws.FnExactLeastShifts", spec := "fnExactLeastShifts", unfollowed := true, recurses := true, apart := false }
def FnExactLeastShiftsSaid : Prop := fnExactLeastShiftsRow.holds Try.pinned (OpenSpec.ofChange fnExactLeastShiftsSpec)

/-- ITS FALSE NEIGHBOUR: 'it returns false'. Refute it at one input. -/
def fnExactLeastShiftsWrong : ChangeSpec := { name := "fnExactLeastShifts", fn := fun _ => fun
  | [d1, d2] => { results := [.lit (.bool false)], args := [d1, d2] }
  | _ => none }
def FnExactLeastShiftsWrongFalsely : Prop := fnExactLeastShiftsRow.holds Try.pinned (OpenSpec.ofChange fnExactLeastShiftsWrong)

/-- 'laws.FnExactAssignLanterns': WHATEVER THE INPUT: true; the input reads as it did. -/
def fnExactAssignLanternsSpec : ChangeSpec := { name := "fnExactAssignLanterns", fn := fun _ => fun
  | [d] => { results := [.lit (.bool true)], args := [d] }
  | _ => none }
def fnExactAssignLanternsRow : OpenClaim := { program := "ytnikpadclmjglaa", sum := "1399899ab2cf545482a4bf299dd72ca94e09f3d66a9851eb329deec03e88aa93", func := "loop.example/g01063/laws.FnExactAssignLanterns", spec := "fnExactAssignLanterns", unfollowed := true, recurses := true, apart := false }
def FnExactAssignLanternsSaid : Prop := fnExactAssignLanternsRow.holds Try.pinned (OpenSpec.ofChange fnExactAssignLanternsSpec)

/-- ITS FALSE NEIGHBOUR: 'it returns false'. Refute it at one input. -/
def fnExactAssignLanternsWrong : ChangeSpec := { name := "fnExactAssignLanterns", fn := fun _ => fun
  | [d] => { results := [.lit (.bool false)], args := [d] }
  | _ => none }
def FnExactAssignLanternsWrongFalsely : Prop := fnExactAssignLanternsRow.holds Try.pinned (OpenSpec.ofChange fnExactAssignLanternsWrong)

/-- 'laws.FnExactSlidesIn': WHATEVER THE INPUT: true; the input reads as it did. -/
def fnExactSlidesInSpec : ChangeSpec := { name := "fnExactSlidesIn", fn := fun _ => fun
  | [d] => { results := [.lit (.bool true)], args := [d] }
  | _ => none }
def fnExactSlidesInRow : OpenClaim := { program := "ytnikpadclmjglaa", sum := "1399899ab2cf545482a4bf299dd72ca94e09f3d66a9851eb329deec03e88aa93", func := "loop.example/g01063/laws.FnExactSlidesIn", spec := "fnExactSlidesIn", recurses := true, apart := false }
def FnExactSlidesInSaid : Prop := fnExactSlidesInRow.holds Try.pinned (OpenSpec.ofChange fnExactSlidesInSpec)

/-- ITS FALSE NEIGHBOUR: 'it returns false'. Refute it at one input. -/
def fnExactSlidesInWrong : ChangeSpec := { name := "fnExactSlidesIn", fn := fun _ => fun
  | [d] => { results := [.lit (.bool false)], args := [d] }
  | _ => none }
def FnExactSlidesInWrongFalsely : Prop := fnExactSlidesInRow.holds Try.pinned (OpenSpec.ofChange fnExactSlidesInWrong)

/- THE SECOND FORM. 'bulk': how many values and letters a reading holds, each counted each time it is reached (what is shared counts as often as it is met; a slice's spare places count too). A statement '..UptoSaid' is the law's where the arguments, and the package variables that the reading takes, are together of bulk at most 1048576: NARROWER than '..Said'. Prove '..Said' where nothing that the law and all that it calls make is longer than what came in: it says more and counts as full. Else prove '..UptoSaid'. A law counts once. -/
mutual
def uptoBulk {H : Type} : DataW H → Nat
  | .lit (.string bytes) => bytes.length + 1
  | .lit _ => 1
  | .nil => 1
  | .ptr d => uptoBulk d + 1
  | .slice elems spare => uptoBulkAll elems + uptoBulkAll spare + 1
  | .agg parts => uptoBulkAll parts + 1
  | .iface _ d => uptoBulk d + 1
  | .map entries => uptoBulkEntries entries + 1
  | .held _ => 1
def uptoBulkAll {H : Type} : List (DataW H) → Nat
  | [] => 0
  | d :: r => uptoBulk d + uptoBulkAll r
def uptoBulkEntries {H : Type} : List (Lit × DataW H) → Nat
  | [] => 0
  | x :: r => uptoBulkEntry x + uptoBulkEntries r
def uptoBulkEntry {H : Type} : Lit × DataW H → Nat
  | (.string bytes, d) => bytes.length + uptoBulk d + 1
  | (_, d) => uptoBulk d + 1
 end
def uptoSmall : (H : Type) → List (DataW H) → Bool := fun _ ds => decide (uptoBulkAll ds ≤ 1048576)
def OpenSpec.upto (s : _root_.Go.ChangeSpec) : _root_.Go.OpenSpec := { _root_.Go.OpenSpec.ofChange s with cond := some uptoSmall }

/-- 'laws.FnExactHandsWithSlack', WHERE WHAT IT READS IS OF BULK AT MOST 1048576: true; the input reads as it did. -/
def fnExactHandsWithSlackUptoRow : OpenClaim := { program := "ytnikpadclmjglaa", sum := "1399899ab2cf545482a4bf299dd72ca94e09f3d66a9851eb329deec03e88aa93", func := "loop.example/g01063/laws.FnExactHandsWithSlack", spec := "fnExactHandsWithSlack", unfollowed := true, recurses := true, apart := false, narrowed := true }
def FnExactHandsWithSlackUptoSaid : Prop := fnExactHandsWithSlackUptoRow.holds Try.pinned (OpenSpec.upto fnExactHandsWithSlackSpec)

/-- 'laws.FnExactLeastShifts', WHERE WHAT IT READS IS OF BULK AT MOST 1048576: true; the input reads as it did. -/
def fnExactLeastShiftsUptoRow : OpenClaim := { program := "ytnikpadclmjglaa", sum := "1399899ab2cf545482a4bf299dd72ca94e09f3d66a9851eb329deec03e88aa93", func := "loop.example/g01063/laws.FnExactLeastShifts", spec := "fnExactLeastShifts", unfollowed := true, recurses := true, apart := false, narrowed := true }
def FnExactLeastShiftsUptoSaid : Prop := fnExactLeastShiftsUptoRow.holds Try.pinned (OpenSpec.upto fnExactLeastShiftsSpec)

/-- 'laws.FnExactAssignLanterns', WHERE WHAT IT READS IS OF BULK AT MOST 1048576: true; the input reads as it did. -/
def fnExactAssignLanternsUptoRow : OpenClaim := { program := "ytnikpadclmjglaa", sum := "1399899ab2cf545482a4bf299dd72ca94e09f3d66a9851eb329deec03e88aa93", func := "loop.example/g01063/laws.FnExactAssignLanterns", spec := "fnExactAssignLanterns", unfollowed := true, recurses := true, apart := false, narrowed := true }
def FnExactAssignLanternsUptoSaid : Prop := fnExactAssignLanternsUptoRow.holds Try.pinned (OpenSpec.upto fnExactAssignLanternsSpec)

/-- 'laws.FnExactSlidesIn', WHERE WHAT IT READS IS OF BULK AT MOST 1048576: true; the input reads as it did. -/
def fnExactSlidesInUptoRow : OpenClaim := { program := "ytnikpadclmjglaa", sum := "1399899ab2cf545482a4bf299dd72ca94e09f3d66a9851eb329deec03e88aa93", func := "loop.example/g01063/laws.FnExactSlidesIn", spec := "fnExactSlidesIn", recurses := true, apart := false, narrowed := true }
def FnExactSlidesInUptoSaid : Prop := fnExactSlidesInUptoRow.holds Try.pinned (OpenSpec.upto fnExactSlidesInSpec)

end Rows
end Go.Proofs.Ytnikpadclmjglaa
