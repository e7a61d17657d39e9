/-
  No cell of these rows narrows 'for every input' (looked for: loops, veiled, ifaces, maps, wideKeys, modest, calm, conditions, laid).
  DERIVED. THE GIVEN ROWS OF THIS SEAT. 3 by the template 'for every input the law returns true; each argument reads behind the call as it read before'; 0 by the template 'total and deterministic' (their statements: YtgpcfjaopmhcmaaTotals.lean).
  GIVEN WITH THE SEED: the statements are not yours to turn. If you find one false, say at which input.
  Laid BY PROGRAM, IN A SANDBOX (cutbox-rows.mjs): the forced cells as the released guide's own fill.sh prints them over the translation c152ad9062e32fe4… (all of the seat's roots in one cut). By AI agents, Wed Nov 11 2026. No macro, syntax, notation, axiom, sorry.
-/
import Derived.Test.YtgpcfjaopmhcmaaChecked
import GoSem.Claim
import GoSem.ClaimJoined
import GoSem.ClaimMapViews
import Derived.JoinedTies
import Derived.KernelRfl
namespace Go.Proofs.Ytgpcfjaopmhcmaa
/- THE CELL 'sum', in the pinned program and in every row, IS THE sha256 OF THE DUMP (.gsa) THAT YtgpcfjaopmhcmaaProg.lean LOADS. Nothing in Lean hashes anything: it is a label: what it is worth is what the hold of that sum in a sandbox is worth. -/
noncomputable def Try.pinned : Pinned := { name := "ytgpcfjaopmhcmaa", sum := "c152ad9062e32fe4f91e3ee7092bf091f0d8e218f24afcff45b5278b901f66c0", checked := Try.checked }
namespace Rows
def none {H : Type} : Left H := { results := [], args := [] }

/-- 'laws.FnExactHandsWithSlack': WHATEVER THE INPUT: true; the input reads as it did. -/
def fnExactHandsWithSlackSpec : ChangeSpec := { name := "fnExactHandsWithSlack", fn := fun _ => fun
  | [d] => { results := [.lit (.bool true)], args := [d] }
  | _ => none }
def fnExactHandsWithSlackRow : OpenClaim := { program := "ytgpcfjaopmhcmaa", sum := "c152ad9062e32fe4f91e3ee7092bf091f0d8e218f24afcff45b5278b901f66c0", func := "loop.example/g01063/laws.FnExactHandsWithSlack", spec := "fnExactHandsWithSlack", unfollowed := true, recurses := true, apart := false }
def FnExactHandsWithSlackSaid : Prop := fnExactHandsWithSlackRow.holds Try.pinned (OpenSpec.ofChange fnExactHandsWithSlackSpec)

/-- ITS FALSE NEIGHBOUR: 'it returns false'. Refute it at one input. -/
def fnExactHandsWithSlackWrong : ChangeSpec := { name := "fnExactHandsWithSlack", fn := fun _ => fun
  | [d] => { results := [.lit (.bool false)], args := [d] }
  | _ => none }
def FnExactHandsWithSlackWrongFalsely : Prop := fnExactHandsWithSlackRow.holds Try.pinned (OpenSpec.ofChange fnExactHandsWithSlackWrong)

/-- 'laws.FnExactShiftCues': WHATEVER THE INPUT: true; the input reads as it did. -/
def fnExactShiftCuesSpec : ChangeSpec := { name := "fnExactShiftCues", fn := fun _ => fun
  | [d1, d2] => { results := [.lit (.bool true)], args := [d1, d2] }
  | _ => none }
def fnExactShiftCuesRow : OpenClaim := { program := "ytgpcfjaopmhcmaa", sum := "c152ad9062e32fe4f91e3ee7092bf091f0d8e218f24afcff45b5278b901f66c0", func := "loop.example/g01063/laws.FnExactShiftCues", spec := "fnExactShiftCues", unfollowed := true, recurses := true, apart := false }
def FnExactShiftCuesSaid : Prop := fnExactShiftCuesRow.holds Try.pinned (OpenSpec.ofChange fnExactShiftCuesSpec)

/-- ITS FALSE NEIGHBOUR: 'it returns false'. Refute it at one input. -/
def fnExactShiftCuesWrong : ChangeSpec := { name := "fnExactShiftCues", fn := fun _ => fun
  | [d1, d2] => { results := [.lit (.bool false)], args := [d1, d2] }
  | _ => none }
def FnExactShiftCuesWrongFalsely : Prop := fnExactShiftCuesRow.holds Try.pinned (OpenSpec.ofChange fnExactShiftCuesWrong)

/-- 'laws.FnExactLeastShifts': WHATEVER THE INPUT: true; the input reads as it did. -/
def fnExactLeastShiftsSpec : ChangeSpec := { name := "fnExactLeastShifts", fn := fun _ => fun
  | [d1, d2] => { results := [.lit (.bool true)], args := [d1, d2] }
  | _ => none }
def fnExactLeastShiftsRow : OpenClaim := { program := "ytgpcfjaopmhcmaa", sum := "c152ad9062e32fe4f91e3ee7092bf091f0d8e218f24afcff45b5278b901f66c0", func := "loop.example/g01063/laws.FnExactLeastShifts", spec := "fnExactLeastShifts", unfollowed := true, recurses := true, apart := false }
def FnExactLeastShiftsSaid : Prop := fnExactLeastShiftsRow.holds Try.pinned (OpenSpec.ofChange fnExactLeastShiftsSpec)

/-- ITS FALSE NEIGHBOUR: 'it returns false'. Refute it at one input. -/
def fnExactLeastShiftsWrong : ChangeSpec := { name := "fnExactLeastShifts", fn := fun _ => fun
  | [d1, d2] => { results := [.lit (.bool false)], args := [d1, d2] }
  | _ => none }
def FnExactLeastShiftsWrongFalsely : Prop := fnExactLeastShiftsRow.holds Try.pinned (OpenSpec.ofChange fnExactLeastShiftsWrong)

/- THE SECOND FORM. 'bulk': how many values and letters a reading holds, each counted each time it is reached (what is shared counts as often as it is met; a slice's spare places count too). A statement '..UptoSaid' is the law's where the arguments, and the package variables that the reading takes, are together of bulk at most 1048576: NARROWER than '..Said'. Prove '..Said' where nothing that the law and all that it calls make is longer than what came in: it says more and counts as full. Else prove '..UptoSaid'. A law counts once. -/
mutual
def uptoBulk {H : Type} : DataW H → Nat
  | .lit (.string bytes) => bytes.length + 1
  | .lit _ => 1
  | .nil => 1
  | .ptr d => uptoBulk d + 1
  | .slice elems spare => uptoBulkAll elems + uptoBulkAll spare + 1
  | .agg parts => uptoBulkAll parts + 1
  | .iface _ d => uptoBulk d + 1
  | .map entries => uptoBulkEntries entries + 1
  | .held _ => 1
def uptoBulkAll {H : Type} : List (DataW H) → Nat
  | [] => 0
  | d :: r => uptoBulk d + uptoBulkAll r
def uptoBulkEntries {H : Type} : List (Lit × DataW H) → Nat
  | [] => 0
  | x :: r => uptoBulkEntry x + uptoBulkEntries r
def uptoBulkEntry {H : Type} : Lit × DataW H → Nat
  | (.string bytes, d) => bytes.length + uptoBulk d + 1
  | (_, d) => uptoBulk d + 1
 end
def uptoSmall : (H : Type) → List (DataW H) → Bool := fun _ ds => decide (uptoBulkAll ds ≤ 1048576)
def OpenSpec.upto (s : _root_.Go.ChangeSpec) : _root_.Go.OpenSpec := { _root_.Go.OpenSpec.ofChange s with cond := some uptoSmall }

/-- 'laws.FnExactHandsWithSlack', WHERE WHAT IT READS IS OF BULK AT MOST 1048576: true; the input reads as it did. -/
def fnExactHandsWithSlackUptoRow : OpenClaim := { program := "ytgpcfjaopmhcmaa", sum := "c152ad9062e32fe4f91e3ee7092bf091f0d8e218f24afcff45b5278b901f66c0", func := "loop.example/g01063/laws.FnExactHandsWithSlack", spec := "fnExactHandsWithSlack", unfollowed := true, recurses := true, apart := false, narrowed := true }
def FnExactHandsWithSlackUptoSaid : Prop := fnExactHandsWithSlackUptoRow.holds Try.pinned (OpenSpec.upto fnExactHandsWithSlackSpec)

/-- 'laws.FnExactShiftCues', WHERE WHAT IT READS IS OF BULK AT MOST 1048576: true; the input reads as it did. -/
def fnExactShiftCuesUptoRow : OpenClaim := { program := "ytgpcfjaopmhcmaa", sum := "c152ad9062e32fe4f91e3ee7092bf091f0d8e218f24afcff45b5278b901f66c0", func := "loop.example/g01063/laws.FnExactShiftCues", spec := "fnExactShiftCues", unfollowed := true, recurses := true, apart := false, narrowed := true }
def FnExactShiftCuesUptoSaid : Prop := fnExactShiftCuesUptoRow.holds Try.pinned (OpenSpec.upto fnExactShiftCuesSpec)

/-- 'laws.FnExactLeastShifts', WHERE WHAT IT READS IS OF BULK AT MOST 1048576: true; the input reads as it did. -/
def fnExactLeastShiftsUptoRow : OpenClaim := { program := "ytgpcfjaopmhcmaa", sum := "c152ad9062e32fe4f91e3ee7092bf091f0d8e218f24afcff45b5278b901f66c0", func := "loop.example/g01063/laws.FnExactLeastShifts", spec := "fnExactLeastShifts", unfollowed := true, recurses := true, apart := false, narrowed := true }
def FnExactLeastShiftsUptoSaid : Prop := fnExactLeastShiftsUptoRow.holds Try.pinned (OpenSpec.upto fnExactLeastShiftsSpec)

end Rows
end Go.Proofs.Ytgpcfjaopmhcmaa
