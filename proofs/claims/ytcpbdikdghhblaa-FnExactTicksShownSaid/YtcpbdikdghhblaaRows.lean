/-
  No cell of these rows narrows 'for every input' (looked for: loops, veiled, ifaces, maps, wideKeys, modest, calm, conditions, laid).
  DERIVED. THE GIVEN ROWS OF THIS SEAT. 6 by the template 'for every input the law returns true; each argument reads behind the call as it read before'; 0 by the template 'total and deterministic' (their statements: YtcpbdikdghhblaaTotals.lean).
  GIVEN WITH THE SEED: the statements are not yours to turn. If you find one false, say at which input.
  Laid BY PROGRAM, IN A SANDBOX (cutbox-rows.mjs): the forced cells as the released guide's own fill.sh prints them over the translation e7c1c6f6b4e74191… (all of the seat's roots in one cut). By AI agents, Wed Nov 11 2026. No macro, syntax, notation, axiom, sorry.
-/
import Derived.Test.YtcpbdikdghhblaaChecked
import GoSem.Claim
import GoSem.ClaimJoined
import GoSem.ClaimMapViews
import Derived.JoinedTies
import Derived.KernelRfl
namespace Go.Proofs.Ytcpbdikdghhblaa
/- THE CELL 'sum', in the pinned program and in every row, IS THE sha256 OF THE DUMP (.gsa) THAT YtcpbdikdghhblaaProg.lean LOADS. Nothing in Lean hashes anything: it is a label: what it is worth is what the hold of that sum in a sandbox is worth. -/
noncomputable def Try.pinned : Pinned := { name := "ytcpbdikdghhblaa", sum := "e7c1c6f6b4e741914f94d88a239b1225596d4b9c985b6cb56d09b87fccba2f10", checked := Try.checked }
namespace Rows
def none {H : Type} : Left H := { results := [], args := [] }

/-- 'laws.FnExactShiftScript': WHATEVER THE INPUT: true; the input reads as it did. -/
def fnExactShiftScriptSpec : ChangeSpec := { name := "fnExactShiftScript", fn := fun _ => fun
  | [d1, d2] => { results := [.lit (.bool true)], args := [d1, d2] }
  | _ => none }
def fnExactShiftScriptRow : OpenClaim := { program := "ytcpbdikdghhblaa", sum := "e7c1c6f6b4e741914f94d88a239b1225596d4b9c985b6cb56d09b87fccba2f10", func := "loop.example/g01063/laws.FnExactShiftScript", spec := "fnExactShiftScript", apart := false }
def FnExactShiftScriptSaid : Prop := fnExactShiftScriptRow.holds Try.pinned (OpenSpec.ofChange fnExactShiftScriptSpec)

/-- ITS FALSE NEIGHBOUR: 'it returns false'. Refute it at one input. -/
def fnExactShiftScriptWrong : ChangeSpec := { name := "fnExactShiftScript", fn := fun _ => fun
  | [d1, d2] => { results := [.lit (.bool false)], args := [d1, d2] }
  | _ => none }
def FnExactShiftScriptWrongFalsely : Prop := fnExactShiftScriptRow.holds Try.pinned (OpenSpec.ofChange fnExactShiftScriptWrong)

/-- 'laws.FnExactSameScript': WHATEVER THE INPUT: true; the input reads as it did. -/
def fnExactSameScriptSpec : ChangeSpec := { name := "fnExactSameScript", fn := fun _ => fun
  | [d1, d2] => { results := [.lit (.bool true)], args := [d1, d2] }
  | _ => none }
def fnExactSameScriptRow : OpenClaim := { program := "ytcpbdikdghhblaa", sum := "e7c1c6f6b4e741914f94d88a239b1225596d4b9c985b6cb56d09b87fccba2f10", func := "loop.example/g01063/laws.FnExactSameScript", spec := "fnExactSameScript", apart := false }
def FnExactSameScriptSaid : Prop := fnExactSameScriptRow.holds Try.pinned (OpenSpec.ofChange fnExactSameScriptSpec)

/-- ITS FALSE NEIGHBOUR: 'it returns false'. Refute it at one input. -/
def fnExactSameScriptWrong : ChangeSpec := { name := "fnExactSameScript", fn := fun _ => fun
  | [d1, d2] => { results := [.lit (.bool false)], args := [d1, d2] }
  | _ => none }
def FnExactSameScriptWrongFalsely : Prop := fnExactSameScriptRow.holds Try.pinned (OpenSpec.ofChange fnExactSameScriptWrong)

/-- 'laws.FnExactValidScript': WHATEVER THE INPUT: true; the input reads as it did. -/
def fnExactValidScriptSpec : ChangeSpec := { name := "fnExactValidScript", fn := fun _ => fun
  | [d] => { results := [.lit (.bool true)], args := [d] }
  | _ => none }
def fnExactValidScriptRow : OpenClaim := { program := "ytcpbdikdghhblaa", sum := "e7c1c6f6b4e741914f94d88a239b1225596d4b9c985b6cb56d09b87fccba2f10", func := "loop.example/g01063/laws.FnExactValidScript", spec := "fnExactValidScript", apart := false }
def FnExactValidScriptSaid : Prop := fnExactValidScriptRow.holds Try.pinned (OpenSpec.ofChange fnExactValidScriptSpec)

/-- ITS FALSE NEIGHBOUR: 'it returns false'. Refute it at one input. -/
def fnExactValidScriptWrong : ChangeSpec := { name := "fnExactValidScript", fn := fun _ => fun
  | [d] => { results := [.lit (.bool false)], args := [d] }
  | _ => none }
def FnExactValidScriptWrongFalsely : Prop := fnExactValidScriptRow.holds Try.pinned (OpenSpec.ofChange fnExactValidScriptWrong)

/-- 'laws.FnExactTicksShown': WHATEVER THE INPUT: true; the input reads as it did. -/
def fnExactTicksShownSpec : ChangeSpec := { name := "fnExactTicksShown", fn := fun _ => fun
  | [d1, d2] => { results := [.lit (.bool true)], args := [d1, d2] }
  | _ => none }
def fnExactTicksShownRow : OpenClaim := { program := "ytcpbdikdghhblaa", sum := "e7c1c6f6b4e741914f94d88a239b1225596d4b9c985b6cb56d09b87fccba2f10", func := "loop.example/g01063/laws.FnExactTicksShown", spec := "fnExactTicksShown", apart := false }
def FnExactTicksShownSaid : Prop := fnExactTicksShownRow.holds Try.pinned (OpenSpec.ofChange fnExactTicksShownSpec)

/-- ITS FALSE NEIGHBOUR: 'it returns false'. Refute it at one input. -/
def fnExactTicksShownWrong : ChangeSpec := { name := "fnExactTicksShown", fn := fun _ => fun
  | [d1, d2] => { results := [.lit (.bool false)], args := [d1, d2] }
  | _ => none }
def FnExactTicksShownWrongFalsely : Prop := fnExactTicksShownRow.holds Try.pinned (OpenSpec.ofChange fnExactTicksShownWrong)

/-- 'laws.FnExactShownAt': WHATEVER THE INPUT: true; the input reads as it did. -/
def fnExactShownAtSpec : ChangeSpec := { name := "fnExactShownAt", fn := fun _ => fun
  | [d1, d2] => { results := [.lit (.bool true)], args := [d1, d2] }
  | _ => none }
def fnExactShownAtRow : OpenClaim := { program := "ytcpbdikdghhblaa", sum := "e7c1c6f6b4e741914f94d88a239b1225596d4b9c985b6cb56d09b87fccba2f10", func := "loop.example/g01063/laws.FnExactShownAt", spec := "fnExactShownAt", apart := false }
def FnExactShownAtSaid : Prop := fnExactShownAtRow.holds Try.pinned (OpenSpec.ofChange fnExactShownAtSpec)

/-- ITS FALSE NEIGHBOUR: 'it returns false'. Refute it at one input. -/
def fnExactShownAtWrong : ChangeSpec := { name := "fnExactShownAt", fn := fun _ => fun
  | [d1, d2] => { results := [.lit (.bool false)], args := [d1, d2] }
  | _ => none }
def FnExactShownAtWrongFalsely : Prop := fnExactShownAtRow.holds Try.pinned (OpenSpec.ofChange fnExactShownAtWrong)

/-- 'laws.FnExactNeverShown': WHATEVER THE INPUT: true; the input reads as it did. -/
def fnExactNeverShownSpec : ChangeSpec := { name := "fnExactNeverShown", fn := fun _ => fun
  | [d] => { results := [.lit (.bool true)], args := [d] }
  | _ => none }
def fnExactNeverShownRow : OpenClaim := { program := "ytcpbdikdghhblaa", sum := "e7c1c6f6b4e741914f94d88a239b1225596d4b9c985b6cb56d09b87fccba2f10", func := "loop.example/g01063/laws.FnExactNeverShown", spec := "fnExactNeverShown", unfollowed := true, recurses := true, apart := false }
def FnExactNeverShownSaid : Prop := fnExactNeverShownRow.holds Try.pinned (OpenSpec.ofChange fnExactNeverShownSpec)

/-- ITS FALSE NEIGHBOUR: 'it returns false'. Refute it at one input. -/
def fnExactNeverShownWrong : ChangeSpec := { name := "fnExactNeverShown", fn := fun _ => fun
  | [d] => { results := [.lit (.bool false)], args := [d] }
  | _ => none }
def FnExactNeverShownWrongFalsely : Prop := fnExactNeverShownRow.holds Try.pinned (OpenSpec.ofChange fnExactNeverShownWrong)

/- THE SECOND FORM. 'bulk': how many values and letters a reading holds, each counted each time it is reached (what is shared counts as often as it is met; a slice's spare places count too). A statement '..UptoSaid' is the law's where the arguments, and the package variables that the reading takes, are together of bulk at most 1048576: NARROWER than '..Said'. Prove '..Said' where nothing that the law and all that it calls make is longer than what came in: it says more and counts as full. Else prove '..UptoSaid'. A law counts once. -/
mutual
def uptoBulk {H : Type} : DataW H → Nat
  | .lit (.string bytes) => bytes.length + 1
  | .lit _ => 1
  | .nil => 1
  | .ptr d => uptoBulk d + 1
  | .slice elems spare => uptoBulkAll elems + uptoBulkAll spare + 1
  | .agg parts => uptoBulkAll parts + 1
  | .iface _ d => uptoBulk d + 1
  | .map entries => uptoBulkEntries entries + 1
  | .held _ => 1
def uptoBulkAll {H : Type} : List (DataW H) → Nat
  | [] => 0
  | d :: r => uptoBulk d + uptoBulkAll r
def uptoBulkEntries {H : Type} : List (Lit × DataW H) → Nat
  | [] => 0
  | x :: r => uptoBulkEntry x + uptoBulkEntries r
def uptoBulkEntry {H : Type} : Lit × DataW H → Nat
  | (.string bytes, d) => bytes.length + uptoBulk d + 1
  | (_, d) => uptoBulk d + 1
 end
def uptoSmall : (H : Type) → List (DataW H) → Bool := fun _ ds => decide (uptoBulkAll ds ≤ 1048576)
def OpenSpec.upto (s : _root_.Go.ChangeSpec) : _root_.Go.OpenSpec := { _root_.Go.OpenSpec.ofChange s with cond := some uptoSmall }

/-- 'laws.FnExactShiftScript', WHERE WHAT IT READS IS OF BULK AT MOST 1048576: true; the input reads as it did. -/
def fnExactShiftScriptUptoRow : OpenClaim := { program := "ytcpbdikdghhblaa", sum := "e7c1c6f6b4e741914f94d88a239b1225596d4b9c985b6cb56d09b87fccba2f10", func := "loop.example/g01063/laws.FnExactShiftScript", spec := "fnExactShiftScript", apart := false, narrowed := true }
def FnExactShiftScriptUptoSaid : Prop := fnExactShiftScriptUptoRow.holds Try.pinned (OpenSpec.upto fnExactShiftScriptSpec)

/-- 'laws.FnExactSameScript', WHERE WHAT IT READS IS OF BULK AT MOST 1048576: true; the input reads as it did. -/
def fnExactSameScriptUptoRow : OpenClaim := { program := "ytcpbdikdghhblaa", sum := "e7c1c6f6b4e741914f94d88a239b1225596d4b9c985b6cb56d09b87fccba2f10", func := "loop.example/g01063/laws.FnExactSameScript", spec := "fnExactSameScript", apart := false, narrowed := true }
def FnExactSameScriptUptoSaid : Prop := fnExactSameScriptUptoRow.holds Try.pinned (OpenSpec.upto fnExactSameScriptSpec)

/-- 'laws.FnExactValidScript', WHERE WHAT IT READS IS OF BULK AT MOST 1048576: true; the input reads as it did. -/
def fnExactValidScriptUptoRow : OpenClaim := { program := "ytcpbdikdghhblaa", sum := "e7c1c6f6b4e741914f94d88a239b1225596d4b9c985b6cb56d09b87fccba2f10", func := "loop.example/g01063/laws.FnExactValidScript", spec := "fnExactValidScript", apart := false, narrowed := true }
def FnExactValidScriptUptoSaid : Prop := fnExactValidScriptUptoRow.holds Try.pinned (OpenSpec.upto fnExactValidScriptSpec)

/-- 'laws.FnExactTicksShown', WHERE WHAT IT READS IS OF BULK AT MOST 1048576: true; the input reads as it did. -/
def fnExactTicksShownUptoRow : OpenClaim := { program := "ytcpbdikdghhblaa", sum := "e7c1c6f6b4e741914f94d88a239b1225596d4b9c985b6cb56d09b87fccba2f10", func := "loop.example/g01063/laws.FnExactTicksShown", spec := "fnExactTicksShown", apart := false, narrowed := true }
def FnExactTicksShownUptoSaid : Prop := fnExactTicksShownUptoRow.holds Try.pinned (OpenSpec.upto fnExactTicksShownSpec)

/-- 'laws.FnExactShownAt', WHERE WHAT IT READS IS OF BULK AT MOST 1048576: true; the input reads as it did. -/
def fnExactShownAtUptoRow : OpenClaim := { program := "ytcpbdikdghhblaa", sum := "e7c1c6f6b4e741914f94d88a239b1225596d4b9c985b6cb56d09b87fccba2f10", func := "loop.example/g01063/laws.FnExactShownAt", spec := "fnExactShownAt", apart := false, narrowed := true }
def FnExactShownAtUptoSaid : Prop := fnExactShownAtUptoRow.holds Try.pinned (OpenSpec.upto fnExactShownAtSpec)

/-- 'laws.FnExactNeverShown', WHERE WHAT IT READS IS OF BULK AT MOST 1048576: true; the input reads as it did. -/
def fnExactNeverShownUptoRow : OpenClaim := { program := "ytcpbdikdghhblaa", sum := "e7c1c6f6b4e741914f94d88a239b1225596d4b9c985b6cb56d09b87fccba2f10", func := "loop.example/g01063/laws.FnExactNeverShown", spec := "fnExactNeverShown", unfollowed := true, recurses := true, apart := false, narrowed := true }
def FnExactNeverShownUptoSaid : Prop := fnExactNeverShownUptoRow.holds Try.pinned (OpenSpec.upto fnExactNeverShownSpec)

end Rows
end Go.Proofs.Ytcpbdikdghhblaa
