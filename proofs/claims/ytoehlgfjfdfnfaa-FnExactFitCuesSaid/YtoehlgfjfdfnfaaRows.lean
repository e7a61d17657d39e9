/-
  No cell of these rows narrows 'for every input' (looked for: loops, veiled, ifaces, maps, wideKeys, modest, calm, conditions, laid).
  DERIVED. THE GIVEN ROWS OF THIS SEAT. 4 by the template 'for every input the law returns true; each argument reads behind the call as it read before'; 0 by the template 'total and deterministic' (their statements: YtoehlgfjfdfnfaaTotals.lean).
  GIVEN WITH THE SEED: the statements are not yours to turn. If you find one false, say at which input.
  Laid BY PROGRAM, IN A SANDBOX (cutbox-rows.mjs): the forced cells as the released guide's own fill.sh prints them over the translation 7b73f348cc00a2c2… (all of the seat's roots in one cut). By AI agents, Wed Nov 11 2026. No macro, syntax, notation, axiom, sorry.
-/
import Derived.Test.YtoehlgfjfdfnfaaChecked
import GoSem.Claim
import GoSem.ClaimJoined
import GoSem.ClaimMapViews
import Derived.JoinedTies
import Derived.KernelRfl
namespace Go.Proofs.Ytoehlgfjfdfnfaa
/- THE CELL 'sum', in the pinned program and in every row, IS THE sha256 OF THE DUMP (.gsa) THAT YtoehlgfjfdfnfaaProg.lean LOADS. Nothing in Lean hashes anything: it is a label: what it is worth is what the hold of that sum in a sandbox is worth. -/
noncomputable def Try.pinned : Pinned := { name := "ytoehlgfjfdfnfaa", sum := "7b73f348cc00a2c221da39df1253a37f84699dfdc45fb2068d927cf6bf7d4fc6", checked := Try.checked }
namespace Rows
def none {H : Type} : Left H := { results := [], args := [] }

/-- 'laws.FnExactBeatAt': WHATEVER THE INPUT: true; the input reads as it did. -/
def fnExactBeatAtSpec : ChangeSpec := { name := "fnExactBeatAt", fn := fun _ => fun
  | [d1, d2] => { results := [.lit (.bool true)], args := [d1, d2] }
  | _ => none }
def fnExactBeatAtRow : OpenClaim := { program := "ytoehlgfjfdfnfaa", sum := "7b73f348cc00a2c221da39df1253a37f84699dfdc45fb2068d927cf6bf7d4fc6", func := "loop.example/g01063/laws.FnExactBeatAt", spec := "fnExactBeatAt", unfollowed := true, recurses := true, apart := false }
def FnExactBeatAtSaid : Prop := fnExactBeatAtRow.holds Try.pinned (OpenSpec.ofChange fnExactBeatAtSpec)

/-- ITS FALSE NEIGHBOUR: 'it returns false'. Refute it at one input. -/
def fnExactBeatAtWrong : ChangeSpec := { name := "fnExactBeatAt", fn := fun _ => fun
  | [d1, d2] => { results := [.lit (.bool false)], args := [d1, d2] }
  | _ => none }
def FnExactBeatAtWrongFalsely : Prop := fnExactBeatAtRow.holds Try.pinned (OpenSpec.ofChange fnExactBeatAtWrong)

/-- 'laws.FnExactLengthOfPiece': WHATEVER THE INPUT: true; the input reads as it did. -/
def fnExactLengthOfPieceSpec : ChangeSpec := { name := "fnExactLengthOfPiece", fn := fun _ => fun
  | [d] => { results := [.lit (.bool true)], args := [d] }
  | _ => none }
def fnExactLengthOfPieceRow : OpenClaim := { program := "ytoehlgfjfdfnfaa", sum := "7b73f348cc00a2c221da39df1253a37f84699dfdc45fb2068d927cf6bf7d4fc6", func := "loop.example/g01063/laws.FnExactLengthOfPiece", spec := "fnExactLengthOfPiece", unfollowed := true, recurses := true, apart := false }
def FnExactLengthOfPieceSaid : Prop := fnExactLengthOfPieceRow.holds Try.pinned (OpenSpec.ofChange fnExactLengthOfPieceSpec)

/-- ITS FALSE NEIGHBOUR: 'it returns false'. Refute it at one input. -/
def fnExactLengthOfPieceWrong : ChangeSpec := { name := "fnExactLengthOfPiece", fn := fun _ => fun
  | [d] => { results := [.lit (.bool false)], args := [d] }
  | _ => none }
def FnExactLengthOfPieceWrongFalsely : Prop := fnExactLengthOfPieceRow.holds Try.pinned (OpenSpec.ofChange fnExactLengthOfPieceWrong)

/-- 'laws.FnExactTimeOfBeat': WHATEVER THE INPUT: true; the input reads as it did. -/
def fnExactTimeOfBeatSpec : ChangeSpec := { name := "fnExactTimeOfBeat", fn := fun _ => fun
  | [d1, d2] => { results := [.lit (.bool true)], args := [d1, d2] }
  | _ => none }
def fnExactTimeOfBeatRow : OpenClaim := { program := "ytoehlgfjfdfnfaa", sum := "7b73f348cc00a2c221da39df1253a37f84699dfdc45fb2068d927cf6bf7d4fc6", func := "loop.example/g01063/laws.FnExactTimeOfBeat", spec := "fnExactTimeOfBeat", unfollowed := true, recurses := true, apart := false }
def FnExactTimeOfBeatSaid : Prop := fnExactTimeOfBeatRow.holds Try.pinned (OpenSpec.ofChange fnExactTimeOfBeatSpec)

/-- ITS FALSE NEIGHBOUR: 'it returns false'. Refute it at one input. -/
def fnExactTimeOfBeatWrong : ChangeSpec := { name := "fnExactTimeOfBeat", fn := fun _ => fun
  | [d1, d2] => { results := [.lit (.bool false)], args := [d1, d2] }
  | _ => none }
def FnExactTimeOfBeatWrongFalsely : Prop := fnExactTimeOfBeatRow.holds Try.pinned (OpenSpec.ofChange fnExactTimeOfBeatWrong)

/-- 'laws.FnExactFitCues': WHATEVER THE INPUT: true; the input reads as it did. -/
def fnExactFitCuesSpec : ChangeSpec := { name := "fnExactFitCues", fn := fun _ => fun
  | [d1, d2] => { results := [.lit (.bool true)], args := [d1, d2] }
  | _ => none }
def fnExactFitCuesRow : OpenClaim := { program := "ytoehlgfjfdfnfaa", sum := "7b73f348cc00a2c221da39df1253a37f84699dfdc45fb2068d927cf6bf7d4fc6", func := "loop.example/g01063/laws.FnExactFitCues", spec := "fnExactFitCues", unfollowed := true, recurses := true, apart := false }
def FnExactFitCuesSaid : Prop := fnExactFitCuesRow.holds Try.pinned (OpenSpec.ofChange fnExactFitCuesSpec)

/-- ITS FALSE NEIGHBOUR: 'it returns false'. Refute it at one input. -/
def fnExactFitCuesWrong : ChangeSpec := { name := "fnExactFitCues", fn := fun _ => fun
  | [d1, d2] => { results := [.lit (.bool false)], args := [d1, d2] }
  | _ => none }
def FnExactFitCuesWrongFalsely : Prop := fnExactFitCuesRow.holds Try.pinned (OpenSpec.ofChange fnExactFitCuesWrong)

/- THE SECOND FORM. 'bulk': how many values and letters a reading holds, each counted each time it is reached (what is shared counts as often as it is met; a slice's spare places count too). A statement '..UptoSaid' is the law's where the arguments, and the package variables that the reading takes, are together of bulk at most 1048576: NARROWER than '..Said'. Prove '..Said' where nothing that the law and all that it calls make is longer than what came in: it says more and counts as full. Else prove '..UptoSaid'. A law counts once. -/
mutual
def uptoBulk {H : Type} : DataW H → Nat
  | .lit (.string bytes) => bytes.length + 1
  | .lit _ => 1
  | .nil => 1
  | .ptr d => uptoBulk d + 1
  | .slice elems spare => uptoBulkAll elems + uptoBulkAll spare + 1
  | .agg parts => uptoBulkAll parts + 1
  | .iface _ d => uptoBulk d + 1
  | .map entries => uptoBulkEntries entries + 1
  | .held _ => 1
def uptoBulkAll {H : Type} : List (DataW H) → Nat
  | [] => 0
  | d :: r => uptoBulk d + uptoBulkAll r
def uptoBulkEntries {H : Type} : List (Lit × DataW H) → Nat
  | [] => 0
  | x :: r => uptoBulkEntry x + uptoBulkEntries r
def uptoBulkEntry {H : Type} : Lit × DataW H → Nat
  | (.string bytes, d) => bytes.length + uptoBulk d + 1
  | (_, d) => uptoBulk d + 1
 end
def uptoSmall : (H : Type) → List (DataW H) → Bool := fun _ ds => decide (uptoBulkAll ds ≤ 1048576)
def OpenSpec.upto (s : _root_.Go.ChangeSpec) : _root_.Go.OpenSpec := { _root_.Go.OpenSpec.ofChange s with cond := some uptoSmall }

/-- 'laws.FnExactBeatAt', WHERE WHAT IT READS IS OF BULK AT MOST 1048576: true; the input reads as it did. -/
def fnExactBeatAtUptoRow : OpenClaim := { program := "ytoehlgfjfdfnfaa", sum := "7b73f348cc00a2c221da39df1253a37f84699dfdc45fb2068d927cf6bf7d4fc6", func := "loop.example/g01063/laws.FnExactBeatAt", spec := "fnExactBeatAt", unfollowed := true, recurses := true, apart := false, narrowed := true }
def FnExactBeatAtUptoSaid : Prop := fnExactBeatAtUptoRow.holds Try.pinned (OpenSpec.upto fnExactBeatAtSpec)

/-- 'laws.FnExactLengthOfPiece', WHERE WHAT IT READS IS OF BULK AT MOST 1048576: true; the input reads as it did. -/
def fnExactLengthOfPieceUptoRow : OpenClaim := { program := "ytoehlgfjfdfnfaa", sum := "7b73f348cc00a2c221da39df1253a37f84699dfdc45fb2068d927cf6bf7d4fc6", func := "loop.example/g01063/laws.FnExactLengthOfPiece", spec := "fnExactLengthOfPiece", unfollowed := true, recurses := true, apart := false, narrowed := true }
def FnExactLengthOfPieceUptoSaid : Prop := fnExactLengthOfPieceUptoRow.holds Try.pinned (OpenSpec.upto fnExactLengthOfPieceSpec)

/-- 'laws.FnExactTimeOfBeat', WHERE WHAT IT READS IS OF BULK AT MOST 1048576: true; the input reads as it did. -/
def fnExactTimeOfBeatUptoRow : OpenClaim := { program := "ytoehlgfjfdfnfaa", sum := "7b73f348cc00a2c221da39df1253a37f84699dfdc45fb2068d927cf6bf7d4fc6", func := "loop.example/g01063/laws.FnExactTimeOfBeat", spec := "fnExactTimeOfBeat", unfollowed := true, recurses := true, apart := false, narrowed := true }
def FnExactTimeOfBeatUptoSaid : Prop := fnExactTimeOfBeatUptoRow.holds Try.pinned (OpenSpec.upto fnExactTimeOfBeatSpec)

/-- 'laws.FnExactFitCues', WHERE WHAT IT READS IS OF BULK AT MOST 1048576: true; the input reads as it did. -/
def fnExactFitCuesUptoRow : OpenClaim := { program := "ytoehlgfjfdfnfaa", sum := "7b73f348cc00a2c221da39df1253a37f84699dfdc45fb2068d927cf6bf7d4fc6", func := "loop.example/g01063/laws.FnExactFitCues", spec := "fnExactFitCues", unfollowed := true, recurses := true, apart := false, narrowed := true }
def FnExactFitCuesUptoSaid : Prop := fnExactFitCuesUptoRow.holds Try.pinned (OpenSpec.upto fnExactFitCuesSpec)

end Rows
end Go.Proofs.Ytoehlgfjfdfnfaa
