/-
  No cell of these rows narrows 'for every input' (looked for: loops, veiled, ifaces, maps, wideKeys, modest, calm, conditions, laid).
  DERIVED. THE GIVEN ROWS OF THIS SEAT. 3 by the template 'for every input the law returns true; each argument reads behind the call as it read before'; 0 by the template 'total and deterministic' (their statements: YtpndjclecbjomaaTotals.lean).
  GIVEN WITH THE SEED: the statements are not yours to turn. If you find one false, say at which input.
  Laid BY PROGRAM, IN A SANDBOX (cutbox-rows.mjs): the forced cells as the released guide's own fill.sh prints them over the translation a6d9b76247c7d2e1… (all of the seat's roots in one cut). By AI agents, Wed Nov 11 2026. No macro, syntax, notation, axiom, sorry.
-/
import Derived.Test.YtpndjclecbjomaaChecked
import GoSem.Claim
import GoSem.ClaimJoined
import GoSem.ClaimMapViews
import Derived.JoinedTies
import Derived.KernelRfl
namespace Go.Proofs.Ytpndjclecbjomaa
/- THE CELL 'sum', in the pinned program and in every row, IS THE sha256 OF THE DUMP (.gsa) THAT YtpndjclecbjomaaProg.lean LOADS. Nothing in Lean hashes anything: it is a label: what it is worth is what the hold of that sum in a sandbox is worth. -/
noncomputable def Try.pinned : Pinned := { name := "ytpndjclecbjomaa", sum := "a6d9b76247c7d2e1c4d269007b2b35b8208aafccf11ea6789f38fb315075671b", checked := Try.checked }
namespace Rows
def none {H : Type} : Left H := { results := [], args := [] }

/-- 'laws.FnExactLoadsLongest': WHATEVER THE INPUT: true; the input reads as it did. -/
def fnExactLoadsLongestSpec : ChangeSpec := { name := "fnExactLoadsLongest", fn := fun _ => fun
  | [d1, d2] => { results := [.lit (.bool true)], args := [d1, d2] }
  | _ => none }
def fnExactLoadsLongestRow : OpenClaim := { program := "ytpndjclecbjomaa", sum := "a6d9b76247c7d2e1c4d269007b2b35b8208aafccf11ea6789f38fb315075671b", func := "loop.example/g01063/laws.FnExactLoadsLongest", spec := "fnExactLoadsLongest", apart := false }
def FnExactLoadsLongestSaid : Prop := fnExactLoadsLongestRow.holds Try.pinned (OpenSpec.ofChange fnExactLoadsLongestSpec)

/-- ITS FALSE NEIGHBOUR: 'it returns false'. Refute it at one input. -/
def fnExactLoadsLongestWrong : ChangeSpec := { name := "fnExactLoadsLongest", fn := fun _ => fun
  | [d1, d2] => { results := [.lit (.bool false)], args := [d1, d2] }
  | _ => none }
def FnExactLoadsLongestWrongFalsely : Prop := fnExactLoadsLongestRow.holds Try.pinned (OpenSpec.ofChange fnExactLoadsLongestWrong)

/-- 'laws.FnExactLoadsOldest': WHATEVER THE INPUT: true; the input reads as it did. -/
def fnExactLoadsOldestSpec : ChangeSpec := { name := "fnExactLoadsOldest", fn := fun _ => fun
  | [d1, d2] => { results := [.lit (.bool true)], args := [d1, d2] }
  | _ => none }
def fnExactLoadsOldestRow : OpenClaim := { program := "ytpndjclecbjomaa", sum := "a6d9b76247c7d2e1c4d269007b2b35b8208aafccf11ea6789f38fb315075671b", func := "loop.example/g01063/laws.FnExactLoadsOldest", spec := "fnExactLoadsOldest", apart := false }
def FnExactLoadsOldestSaid : Prop := fnExactLoadsOldestRow.holds Try.pinned (OpenSpec.ofChange fnExactLoadsOldestSpec)

/-- ITS FALSE NEIGHBOUR: 'it returns false'. Refute it at one input. -/
def fnExactLoadsOldestWrong : ChangeSpec := { name := "fnExactLoadsOldest", fn := fun _ => fun
  | [d1, d2] => { results := [.lit (.bool false)], args := [d1, d2] }
  | _ => none }
def FnExactLoadsOldestWrongFalsely : Prop := fnExactLoadsOldestRow.holds Try.pinned (OpenSpec.ofChange fnExactLoadsOldestWrong)

/-- 'laws.FnExactSlidesIn': WHATEVER THE INPUT: true; the input reads as it did. -/
def fnExactSlidesInSpec : ChangeSpec := { name := "fnExactSlidesIn", fn := fun _ => fun
  | [d] => { results := [.lit (.bool true)], args := [d] }
  | _ => none }
def fnExactSlidesInRow : OpenClaim := { program := "ytpndjclecbjomaa", sum := "a6d9b76247c7d2e1c4d269007b2b35b8208aafccf11ea6789f38fb315075671b", func := "loop.example/g01063/laws.FnExactSlidesIn", spec := "fnExactSlidesIn", recurses := true, apart := false }
def FnExactSlidesInSaid : Prop := fnExactSlidesInRow.holds Try.pinned (OpenSpec.ofChange fnExactSlidesInSpec)

/-- ITS FALSE NEIGHBOUR: 'it returns false'. Refute it at one input. -/
def fnExactSlidesInWrong : ChangeSpec := { name := "fnExactSlidesIn", fn := fun _ => fun
  | [d] => { results := [.lit (.bool false)], args := [d] }
  | _ => none }
def FnExactSlidesInWrongFalsely : Prop := fnExactSlidesInRow.holds Try.pinned (OpenSpec.ofChange fnExactSlidesInWrong)

/- THE SECOND FORM. 'bulk': how many values and letters a reading holds, each counted each time it is reached (what is shared counts as often as it is met; a slice's spare places count too). A statement '..UptoSaid' is the law's where the arguments, and the package variables that the reading takes, are together of bulk at most 1048576: NARROWER than '..Said'. Prove '..Said' where nothing that the law and all that it calls make is longer than what came in: it says more and counts as full. Else prove '..UptoSaid'. A law counts once. -/
mutual
def uptoBulk {H : Type} : DataW H → Nat
  | .lit (.string bytes) => bytes.length + 1
  | .lit _ => 1
  | .nil => 1
  | .ptr d => uptoBulk d + 1
  | .slice elems spare => uptoBulkAll elems + uptoBulkAll spare + 1
  | .agg parts => uptoBulkAll parts + 1
  | .iface _ d => uptoBulk d + 1
  | .map entries => uptoBulkEntries entries + 1
  | .held _ => 1
def uptoBulkAll {H : Type} : List (DataW H) → Nat
  | [] => 0
  | d :: r => uptoBulk d + uptoBulkAll r
def uptoBulkEntries {H : Type} : List (Lit × DataW H) → Nat
  | [] => 0
  | x :: r => uptoBulkEntry x + uptoBulkEntries r
def uptoBulkEntry {H : Type} : Lit × DataW H → Nat
  | (.string bytes, d) => bytes.length + uptoBulk d + 1
  | (_, d) => uptoBulk d + 1
 end
def uptoSmall : (H : Type) → List (DataW H) → Bool := fun _ ds => decide (uptoBulkAll ds ≤ 1048576)
def OpenSpec.upto (s : _root_.Go.ChangeSpec) : _root_.Go.OpenSpec := { _root_.Go.OpenSpec.ofChange s with cond := some uptoSmall }

/-- 'laws.FnExactLoadsLongest', WHERE WHAT IT READS IS OF BULK AT MOST 1048576: true; the input reads as it did. -/
def fnExactLoadsLongestUptoRow : OpenClaim := { program := "ytpndjclecbjomaa", sum := "a6d9b76247c7d2e1c4d269007b2b35b8208aafccf11ea6789f38fb315075671b", func := "loop.example/g01063/laws.FnExactLoadsLongest", spec := "fnExactLoadsLongest", apart := false, narrowed := true }
def FnExactLoadsLongestUptoSaid : Prop := fnExactLoadsLongestUptoRow.holds Try.pinned (OpenSpec.upto fnExactLoadsLongestSpec)

/-- 'laws.FnExactLoadsOldest', WHERE WHAT IT READS IS OF BULK AT MOST 1048576: true; the input reads as it did. -/
def fnExactLoadsOldestUptoRow : OpenClaim := { program := "ytpndjclecbjomaa", sum := "a6d9b76247c7d2e1c4d269007b2b35b8208aafccf11ea6789f38fb315075671b", func := "loop.example/g01063/laws.FnExactLoadsOldest", spec := "fnExactLoadsOldest", apart := false, narrowed := true }
def FnExactLoadsOldestUptoSaid : Prop := fnExactLoadsOldestUptoRow.holds Try.pinned (OpenSpec.upto fnExactLoadsOldestSpec)

/-- 'laws.FnExactSlidesIn', WHERE WHAT IT READS IS OF BULK AT MOST 1048576: true; the input reads as it did. -/
def fnExactSlidesInUptoRow : OpenClaim := { program := "ytpndjclecbjomaa", sum := "a6d9b76247c7d2e1c4d269007b2b35b8208aafccf11ea6789f38fb315075671b", func := "loop.example/g01063/laws.FnExactSlidesIn", spec := "fnExactSlidesIn", recurses := true, apart := false, narrowed := true }
def FnExactSlidesInUptoSaid : Prop := fnExactSlidesInUptoRow.holds Try.pinned (OpenSpec.upto fnExactSlidesInSpec)

end Rows
end Go.Proofs.Ytpndjclecbjomaa
