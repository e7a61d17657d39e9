/-
  No cell of these rows narrows 'for every input' (looked for: loops, veiled, ifaces, maps, wideKeys, modest, calm, conditions, laid).
  DERIVED. THE GIVEN ROWS OF THIS SEAT. 10 by the template 'for every input the law returns true; each argument reads behind the call as it read before'; 0 by the template 'total and deterministic' (their statements: YtdodehoieihpbaaTotals.lean).
  GIVEN WITH THE SEED: the statements are not yours to turn. If you find one false, say at which input.
  Laid BY PROGRAM, IN A SANDBOX (cutbox-rows.mjs): the forced cells as the released guide's own fill.sh prints them over the translation 80f628447a97aa71… (all of the seat's roots in one cut). By AI agents, Wed Nov 11 2026. No macro, syntax, notation, axiom, sorry.
-/
import Derived.Test.YtdodehoieihpbaaChecked
import GoSem.Claim
import GoSem.ClaimJoined
import GoSem.ClaimMapViews
import Derived.JoinedTies
import Derived.KernelRfl
namespace Go.Proofs.Ytdodehoieihpbaa
/- THE CELL 'sum', in the pinned program and in every row, IS THE sha256 OF THE DUMP (.gsa) THAT YtdodehoieihpbaaProg.lean LOADS. Nothing in Lean hashes anything: it is a label: what it is worth is what the hold of that sum in a sandbox is worth. -/
noncomputable def Try.pinned : Pinned := { name := "ytdodehoieihpbaa", sum := "80f628447a97aa710cbd0a1b6d2c61c199ceece5e1038efaa6bae16d36e1c96a", checked := Try.checked }
namespace Rows
def none {H : Type} : Left H := { results := [], args := [] }

/-- 'laws.FnExactSameCues': WHATEVER THE INPUT: true; the input reads as it did. -/
def fnExactSameCuesSpec : ChangeSpec := { name := "fnExactSameCues", fn := fun _ => fun
  | [d1, d2] => { results := [.lit (.bool true)], args := [d1, d2] }
  | _ => none }
def fnExactSameCuesRow : OpenClaim := { program := "ytdodehoieihpbaa", sum := "80f628447a97aa710cbd0a1b6d2c61c199ceece5e1038efaa6bae16d36e1c96a", func := "loop.example/g01063/laws.FnExactSameCues", spec := "fnExactSameCues", apart := false }
def FnExactSameCuesSaid : Prop := fnExactSameCuesRow.holds Try.pinned (OpenSpec.ofChange fnExactSameCuesSpec)

/-- ITS FALSE NEIGHBOUR: 'it returns false'. Refute it at one input. -/
def fnExactSameCuesWrong : ChangeSpec := { name := "fnExactSameCues", fn := fun _ => fun
  | [d1, d2] => { results := [.lit (.bool false)], args := [d1, d2] }
  | _ => none }
def FnExactSameCuesWrongFalsely : Prop := fnExactSameCuesRow.holds Try.pinned (OpenSpec.ofChange fnExactSameCuesWrong)

/-- 'laws.FnExactValidCues': WHATEVER THE INPUT: true; the input reads as it did. -/
def fnExactValidCuesSpec : ChangeSpec := { name := "fnExactValidCues", fn := fun _ => fun
  | [d] => { results := [.lit (.bool true)], args := [d] }
  | _ => none }
def fnExactValidCuesRow : OpenClaim := { program := "ytdodehoieihpbaa", sum := "80f628447a97aa710cbd0a1b6d2c61c199ceece5e1038efaa6bae16d36e1c96a", func := "loop.example/g01063/laws.FnExactValidCues", spec := "fnExactValidCues", unfollowed := true, recurses := true, apart := false }
def FnExactValidCuesSaid : Prop := fnExactValidCuesRow.holds Try.pinned (OpenSpec.ofChange fnExactValidCuesSpec)

/-- ITS FALSE NEIGHBOUR: 'it returns false'. Refute it at one input. -/
def fnExactValidCuesWrong : ChangeSpec := { name := "fnExactValidCues", fn := fun _ => fun
  | [d] => { results := [.lit (.bool false)], args := [d] }
  | _ => none }
def FnExactValidCuesWrongFalsely : Prop := fnExactValidCuesRow.holds Try.pinned (OpenSpec.ofChange fnExactValidCuesWrong)

/-- 'laws.FnExactEndOfCues': WHATEVER THE INPUT: true; the input reads as it did. -/
def fnExactEndOfCuesSpec : ChangeSpec := { name := "fnExactEndOfCues", fn := fun _ => fun
  | [d] => { results := [.lit (.bool true)], args := [d] }
  | _ => none }
def fnExactEndOfCuesRow : OpenClaim := { program := "ytdodehoieihpbaa", sum := "80f628447a97aa710cbd0a1b6d2c61c199ceece5e1038efaa6bae16d36e1c96a", func := "loop.example/g01063/laws.FnExactEndOfCues", spec := "fnExactEndOfCues", unfollowed := true, recurses := true, apart := false }
def FnExactEndOfCuesSaid : Prop := fnExactEndOfCuesRow.holds Try.pinned (OpenSpec.ofChange fnExactEndOfCuesSpec)

/-- ITS FALSE NEIGHBOUR: 'it returns false'. Refute it at one input. -/
def fnExactEndOfCuesWrong : ChangeSpec := { name := "fnExactEndOfCues", fn := fun _ => fun
  | [d] => { results := [.lit (.bool false)], args := [d] }
  | _ => none }
def FnExactEndOfCuesWrongFalsely : Prop := fnExactEndOfCuesRow.holds Try.pinned (OpenSpec.ofChange fnExactEndOfCuesWrong)

/-- 'laws.FnExactHandsAt': WHATEVER THE INPUT: true; the input reads as it did. -/
def fnExactHandsAtSpec : ChangeSpec := { name := "fnExactHandsAt", fn := fun _ => fun
  | [d1, d2] => { results := [.lit (.bool true)], args := [d1, d2] }
  | _ => none }
def fnExactHandsAtRow : OpenClaim := { program := "ytdodehoieihpbaa", sum := "80f628447a97aa710cbd0a1b6d2c61c199ceece5e1038efaa6bae16d36e1c96a", func := "loop.example/g01063/laws.FnExactHandsAt", spec := "fnExactHandsAt", unfollowed := true, recurses := true, apart := false }
def FnExactHandsAtSaid : Prop := fnExactHandsAtRow.holds Try.pinned (OpenSpec.ofChange fnExactHandsAtSpec)

/-- ITS FALSE NEIGHBOUR: 'it returns false'. Refute it at one input. -/
def fnExactHandsAtWrong : ChangeSpec := { name := "fnExactHandsAt", fn := fun _ => fun
  | [d1, d2] => { results := [.lit (.bool false)], args := [d1, d2] }
  | _ => none }
def FnExactHandsAtWrongFalsely : Prop := fnExactHandsAtRow.holds Try.pinned (OpenSpec.ofChange fnExactHandsAtWrong)

/-- 'laws.FnExactMostHands': WHATEVER THE INPUT: true; the input reads as it did. -/
def fnExactMostHandsSpec : ChangeSpec := { name := "fnExactMostHands", fn := fun _ => fun
  | [d] => { results := [.lit (.bool true)], args := [d] }
  | _ => none }
def fnExactMostHandsRow : OpenClaim := { program := "ytdodehoieihpbaa", sum := "80f628447a97aa710cbd0a1b6d2c61c199ceece5e1038efaa6bae16d36e1c96a", func := "loop.example/g01063/laws.FnExactMostHands", spec := "fnExactMostHands", unfollowed := true, recurses := true, apart := false }
def FnExactMostHandsSaid : Prop := fnExactMostHandsRow.holds Try.pinned (OpenSpec.ofChange fnExactMostHandsSpec)

/-- ITS FALSE NEIGHBOUR: 'it returns false'. Refute it at one input. -/
def fnExactMostHandsWrong : ChangeSpec := { name := "fnExactMostHands", fn := fun _ => fun
  | [d] => { results := [.lit (.bool false)], args := [d] }
  | _ => none }
def FnExactMostHandsWrongFalsely : Prop := fnExactMostHandsRow.holds Try.pinned (OpenSpec.ofChange fnExactMostHandsWrong)

/-- 'laws.FnExactIdleCues': WHATEVER THE INPUT: true; the input reads as it did. -/
def fnExactIdleCuesSpec : ChangeSpec := { name := "fnExactIdleCues", fn := fun _ => fun
  | [d] => { results := [.lit (.bool true)], args := [d] }
  | _ => none }
def fnExactIdleCuesRow : OpenClaim := { program := "ytdodehoieihpbaa", sum := "80f628447a97aa710cbd0a1b6d2c61c199ceece5e1038efaa6bae16d36e1c96a", func := "loop.example/g01063/laws.FnExactIdleCues", spec := "fnExactIdleCues", unfollowed := true, recurses := true, apart := false }
def FnExactIdleCuesSaid : Prop := fnExactIdleCuesRow.holds Try.pinned (OpenSpec.ofChange fnExactIdleCuesSpec)

/-- ITS FALSE NEIGHBOUR: 'it returns false'. Refute it at one input. -/
def fnExactIdleCuesWrong : ChangeSpec := { name := "fnExactIdleCues", fn := fun _ => fun
  | [d] => { results := [.lit (.bool false)], args := [d] }
  | _ => none }
def FnExactIdleCuesWrongFalsely : Prop := fnExactIdleCuesRow.holds Try.pinned (OpenSpec.ofChange fnExactIdleCuesWrong)

/-- 'laws.FnExactFirstOverload': WHATEVER THE INPUT: true; the input reads as it did. -/
def fnExactFirstOverloadSpec : ChangeSpec := { name := "fnExactFirstOverload", fn := fun _ => fun
  | [d1, d2] => { results := [.lit (.bool true)], args := [d1, d2] }
  | _ => none }
def fnExactFirstOverloadRow : OpenClaim := { program := "ytdodehoieihpbaa", sum := "80f628447a97aa710cbd0a1b6d2c61c199ceece5e1038efaa6bae16d36e1c96a", func := "loop.example/g01063/laws.FnExactFirstOverload", spec := "fnExactFirstOverload", unfollowed := true, recurses := true, apart := false }
def FnExactFirstOverloadSaid : Prop := fnExactFirstOverloadRow.holds Try.pinned (OpenSpec.ofChange fnExactFirstOverloadSpec)

/-- ITS FALSE NEIGHBOUR: 'it returns false'. Refute it at one input. -/
def fnExactFirstOverloadWrong : ChangeSpec := { name := "fnExactFirstOverload", fn := fun _ => fun
  | [d1, d2] => { results := [.lit (.bool false)], args := [d1, d2] }
  | _ => none }
def FnExactFirstOverloadWrongFalsely : Prop := fnExactFirstOverloadRow.holds Try.pinned (OpenSpec.ofChange fnExactFirstOverloadWrong)

/-- 'laws.FnExactHandsWithSlack': WHATEVER THE INPUT: true; the input reads as it did. -/
def fnExactHandsWithSlackSpec : ChangeSpec := { name := "fnExactHandsWithSlack", fn := fun _ => fun
  | [d] => { results := [.lit (.bool true)], args := [d] }
  | _ => none }
def fnExactHandsWithSlackRow : OpenClaim := { program := "ytdodehoieihpbaa", sum := "80f628447a97aa710cbd0a1b6d2c61c199ceece5e1038efaa6bae16d36e1c96a", func := "loop.example/g01063/laws.FnExactHandsWithSlack", spec := "fnExactHandsWithSlack", unfollowed := true, recurses := true, apart := false }
def FnExactHandsWithSlackSaid : Prop := fnExactHandsWithSlackRow.holds Try.pinned (OpenSpec.ofChange fnExactHandsWithSlackSpec)

/-- ITS FALSE NEIGHBOUR: 'it returns false'. Refute it at one input. -/
def fnExactHandsWithSlackWrong : ChangeSpec := { name := "fnExactHandsWithSlack", fn := fun _ => fun
  | [d] => { results := [.lit (.bool false)], args := [d] }
  | _ => none }
def FnExactHandsWithSlackWrongFalsely : Prop := fnExactHandsWithSlackRow.holds Try.pinned (OpenSpec.ofChange fnExactHandsWithSlackWrong)

/-- 'laws.FnExactShiftCues': WHATEVER THE INPUT: true; the input reads as it did. -/
def fnExactShiftCuesSpec : ChangeSpec := { name := "fnExactShiftCues", fn := fun _ => fun
  | [d1, d2] => { results := [.lit (.bool true)], args := [d1, d2] }
  | _ => none }
def fnExactShiftCuesRow : OpenClaim := { program := "ytdodehoieihpbaa", sum := "80f628447a97aa710cbd0a1b6d2c61c199ceece5e1038efaa6bae16d36e1c96a", func := "loop.example/g01063/laws.FnExactShiftCues", spec := "fnExactShiftCues", unfollowed := true, recurses := true, apart := false }
def FnExactShiftCuesSaid : Prop := fnExactShiftCuesRow.holds Try.pinned (OpenSpec.ofChange fnExactShiftCuesSpec)

/-- ITS FALSE NEIGHBOUR: 'it returns false'. Refute it at one input. -/
def fnExactShiftCuesWrong : ChangeSpec := { name := "fnExactShiftCues", fn := fun _ => fun
  | [d1, d2] => { results := [.lit (.bool false)], args := [d1, d2] }
  | _ => none }
def FnExactShiftCuesWrongFalsely : Prop := fnExactShiftCuesRow.holds Try.pinned (OpenSpec.ofChange fnExactShiftCuesWrong)

/-- 'laws.FnExactLeastShifts': WHATEVER THE INPUT: true; the input reads as it did. -/
def fnExactLeastShiftsSpec : ChangeSpec := { name := "fnExactLeastShifts", fn := fun _ => fun
  | [d1, d2] => { results := [.lit (.bool true)], args := [d1, d2] }
  | _ => none }
def fnExactLeastShiftsRow : OpenClaim := { program := "ytdodehoieihpbaa", sum := "80f628447a97aa710cbd0a1b6d2c61c199ceece5e1038efaa6bae16d36e1c96a", func := "loop.example/g01063/laws.FnExactLeastShifts", spec := "fnExactLeastShifts", unfollowed := true, recurses := true, apart := false }
def FnExactLeastShiftsSaid : Prop := fnExactLeastShiftsRow.holds Try.pinned (OpenSpec.ofChange fnExactLeastShiftsSpec)

/-- ITS FALSE NEIGHBOUR: 'it returns false'. Refute it at one input. -/
def fnExactLeastShiftsWrong : ChangeSpec := { name := "fnExactLeastShifts", fn := fun _ => fun
  | [d1, d2] => { results := [.lit (.bool false)], args := [d1, d2] }
  | _ => none }
def FnExactLeastShiftsWrongFalsely : Prop := fnExactLeastShiftsRow.holds Try.pinned (OpenSpec.ofChange fnExactLeastShiftsWrong)

/- THE SECOND FORM. 'bulk': how many values and letters a reading holds, each counted each time it is reached (what is shared counts as often as it is met; a slice's spare places count too). A statement '..UptoSaid' is the law's where the arguments, and the package variables that the reading takes, are together of bulk at most 1048576: NARROWER than '..Said'. Prove '..Said' where nothing that the law and all that it calls make is longer than what came in: it says more and counts as full. Else prove '..UptoSaid'. A law counts once. -/
mutual
def uptoBulk {H : Type} : DataW H → Nat
  | .lit (.string bytes) => bytes.length + 1
  | .lit _ => 1
  | .nil => 1
  | .ptr d => uptoBulk d + 1
  | .slice elems spare => uptoBulkAll elems + uptoBulkAll spare + 1
  | .agg parts => uptoBulkAll parts + 1
  | .iface _ d => uptoBulk d + 1
  | .map entries => uptoBulkEntries entries + 1
  | .held _ => 1
def uptoBulkAll {H : Type} : List (DataW H) → Nat
  | [] => 0
  | d :: r => uptoBulk d + uptoBulkAll r
def uptoBulkEntries {H : Type} : List (Lit × DataW H) → Nat
  | [] => 0
  | x :: r => uptoBulkEntry x + uptoBulkEntries r
def uptoBulkEntry {H : Type} : Lit × DataW H → Nat
  | (.string bytes, d) => bytes.length + uptoBulk d + 1
  | (_, d) => uptoBulk d + 1
 end
def uptoSmall : (H : Type) → List (DataW H) → Bool := fun _ ds => decide (uptoBulkAll ds ≤ 1048576)
def OpenSpec.upto (s : _root_.Go.ChangeSpec) : _root_.Go.OpenSpec := { _root_.Go.OpenSpec.ofChange s with cond := some uptoSmall }

/-- 'laws.FnExactSameCues', WHERE WHAT IT READS IS OF BULK AT MOST 1048576: true; the input reads as it did. -/
def fnExactSameCuesUptoRow : OpenClaim := { program := "ytdodehoieihpbaa", sum := "80f628447a97aa710cbd0a1b6d2c61c199ceece5e1038efaa6bae16d36e1c96a", func := "loop.example/g01063/laws.FnExactSameCues", spec := "fnExactSameCues", apart := false, narrowed := true }
def FnExactSameCuesUptoSaid : Prop := fnExactSameCuesUptoRow.holds Try.pinned (OpenSpec.upto fnExactSameCuesSpec)

/-- 'laws.FnExactValidCues', WHERE WHAT IT READS IS OF BULK AT MOST 1048576: true; the input reads as it did. -/
def fnExactValidCuesUptoRow : OpenClaim := { program := "ytdodehoieihpbaa", sum := "80f628447a97aa710cbd0a1b6d2c61c199ceece5e1038efaa6bae16d36e1c96a", func := "loop.example/g01063/laws.FnExactValidCues", spec := "fnExactValidCues", unfollowed := true, recurses := true, apart := false, narrowed := true }
def FnExactValidCuesUptoSaid : Prop := fnExactValidCuesUptoRow.holds Try.pinned (OpenSpec.upto fnExactValidCuesSpec)

/-- 'laws.FnExactEndOfCues', WHERE WHAT IT READS IS OF BULK AT MOST 1048576: true; the input reads as it did. -/
def fnExactEndOfCuesUptoRow : OpenClaim := { program := "ytdodehoieihpbaa", sum := "80f628447a97aa710cbd0a1b6d2c61c199ceece5e1038efaa6bae16d36e1c96a", func := "loop.example/g01063/laws.FnExactEndOfCues", spec := "fnExactEndOfCues", unfollowed := true, recurses := true, apart := false, narrowed := true }
def FnExactEndOfCuesUptoSaid : Prop := fnExactEndOfCuesUptoRow.holds Try.pinned (OpenSpec.upto fnExactEndOfCuesSpec)

/-- 'laws.FnExactHandsAt', WHERE WHAT IT READS IS OF BULK AT MOST 1048576: true; the input reads as it did. -/
def fnExactHandsAtUptoRow : OpenClaim := { program := "ytdodehoieihpbaa", sum := "80f628447a97aa710cbd0a1b6d2c61c199ceece5e1038efaa6bae16d36e1c96a", func := "loop.example/g01063/laws.FnExactHandsAt", spec := "fnExactHandsAt", unfollowed := true, recurses := true, apart := false, narrowed := true }
def FnExactHandsAtUptoSaid : Prop := fnExactHandsAtUptoRow.holds Try.pinned (OpenSpec.upto fnExactHandsAtSpec)

/-- 'laws.FnExactMostHands', WHERE WHAT IT READS IS OF BULK AT MOST 1048576: true; the input reads as it did. -/
def fnExactMostHandsUptoRow : OpenClaim := { program := "ytdodehoieihpbaa", sum := "80f628447a97aa710cbd0a1b6d2c61c199ceece5e1038efaa6bae16d36e1c96a", func := "loop.example/g01063/laws.FnExactMostHands", spec := "fnExactMostHands", unfollowed := true, recurses := true, apart := false, narrowed := true }
def FnExactMostHandsUptoSaid : Prop := fnExactMostHandsUptoRow.holds Try.pinned (OpenSpec.upto fnExactMostHandsSpec)

/-- 'laws.FnExactIdleCues', WHERE WHAT IT READS IS OF BULK AT MOST 1048576: true; the input reads as it did. -/
def fnExactIdleCuesUptoRow : OpenClaim := { program := "ytdodehoieihpbaa", sum := "80f628447a97aa710cbd0a1b6d2c61c199ceece5e1038efaa6bae16d36e1c96a", func := "loop.example/g01063/laws.FnExactIdleCues", spec := "fnExactIdleCues", unfollowed := true, recurses := true, apart := false, narrowed := true }
def FnExactIdleCuesUptoSaid : Prop := fnExactIdleCuesUptoRow.holds Try.pinned (OpenSpec.upto fnExactIdleCuesSpec)

/-- 'laws.FnExactFirstOverload', WHERE WHAT IT READS IS OF BULK AT MOST 1048576: true; the input reads as it did. -/
def fnExactFirstOverloadUptoRow : OpenClaim := { program := "ytdodehoieihpbaa", sum := "80f628447a97aa710cbd0a1b6d2c61c199ceece5e1038efaa6bae16d36e1c96a", func := "loop.example/g01063/laws.FnExactFirstOverload", spec := "fnExactFirstOverload", unfollowed := true, recurses := true, apart := false, narrowed := true }
def FnExactFirstOverloadUptoSaid : Prop := fnExactFirstOverloadUptoRow.holds Try.pinned (OpenSpec.upto fnExactFirstOverloadSpec)

/-- 'laws.FnExactHandsWithSlack', WHERE WHAT IT READS IS OF BULK AT MOST 1048576: true; the input reads as it did. -/
def fnExactHandsWithSlackUptoRow : OpenClaim := { program := "ytdodehoieihpbaa", sum := "80f628447a97aa710cbd0a1b6d2c61c199ceece5e1038efaa6bae16d36e1c96a", func := "loop.example/g01063/laws.FnExactHandsWithSlack", spec := "fnExactHandsWithSlack", unfollowed := true, recurses := true, apart := false, narrowed := true }
def FnExactHandsWithSlackUptoSaid : Prop := fnExactHandsWithSlackUptoRow.holds Try.pinned (OpenSpec.upto fnExactHandsWithSlackSpec)

/-- 'laws.FnExactShiftCues', WHERE WHAT IT READS IS OF BULK AT MOST 1048576: true; the input reads as it did. -/
def fnExactShiftCuesUptoRow : OpenClaim := { program := "ytdodehoieihpbaa", sum := "80f628447a97aa710cbd0a1b6d2c61c199ceece5e1038efaa6bae16d36e1c96a", func := "loop.example/g01063/laws.FnExactShiftCues", spec := "fnExactShiftCues", unfollowed := true, recurses := true, apart := false, narrowed := true }
def FnExactShiftCuesUptoSaid : Prop := fnExactShiftCuesUptoRow.holds Try.pinned (OpenSpec.upto fnExactShiftCuesSpec)

/-- 'laws.FnExactLeastShifts', WHERE WHAT IT READS IS OF BULK AT MOST 1048576: true; the input reads as it did. -/
def fnExactLeastShiftsUptoRow : OpenClaim := { program := "ytdodehoieihpbaa", sum := "80f628447a97aa710cbd0a1b6d2c61c199ceece5e1038efaa6bae16d36e1c96a", func := "loop.example/g01063/laws.FnExactLeastShifts", spec := "fnExactLeastShifts", unfollowed := true, recurses := true, apart := false, narrowed := true }
def FnExactLeastShiftsUptoSaid : Prop := fnExactLeastShiftsUptoRow.holds Try.pinned (OpenSpec.upto fnExactLeastShiftsSpec)

end Rows
end Go.Proofs.Ytdodehoieihpbaa
