/-
  No cell of these rows narrows 'for every input' (looked for: loops, veiled, ifaces, maps, wideKeys, modest, calm, conditions, laid).
  DERIVED. THE GIVEN ROWS OF THIS SEAT. 11 by the template 'for every input the law returns true; each argument reads behind the call as it read before'; 0 by the template 'total and deterministic' (their statements: YthkcamghmfenkaaTotals.lean).
  GIVEN WITH THE SEED: the statements are not yours to turn. If you find one false, say at which input.
  Laid BY PROGRAM, IN A SANDBOX (cutbox-rows.mjs): the forced cells as the released guide's own fill.sh prints them over the translation 8d5fcc5c815e1f83… (all of the seat's roots in one cut). By AI agents, Wed Nov 11 2026. No macro, syntax, notation, axiom, sorry.
-/
import Derived.Test.YthkcamghmfenkaaChecked
import GoSem.Claim
import GoSem.ClaimJoined
import GoSem.ClaimMapViews
import Derived.JoinedTies
import Derived.KernelRfl
namespace Go.Proofs.Ythkcamghmfenkaa
/- THE CELL 'sum', in the pinned program and in every row, IS THE sha256 OF THE DUMP (.gsa) THAT YthkcamghmfenkaaProg.lean LOADS. Nothing in Lean hashes anything: it is a label: what it is worth is what the hold of that sum in a sandbox is worth. -/
noncomputable def Try.pinned : Pinned := { name := "ythkcamghmfenkaa", sum := "8d5fcc5c815e1f838548b9f574c44b14e13966031b2190b3d708989e46a0494a", checked := Try.checked }
namespace Rows
def none {H : Type} : Left H := { results := [], args := [] }

/-- 'laws.FnExactSameShown': WHATEVER THE INPUT: true; the input reads as it did. -/
def fnExactSameShownSpec : ChangeSpec := { name := "fnExactSameShown", fn := fun _ => fun
  | [d1, d2] => { results := [.lit (.bool true)], args := [d1, d2] }
  | _ => none }
def fnExactSameShownRow : OpenClaim := { program := "ythkcamghmfenkaa", sum := "8d5fcc5c815e1f838548b9f574c44b14e13966031b2190b3d708989e46a0494a", func := "loop.example/g01063/laws.FnExactSameShown", spec := "fnExactSameShown", apart := false }
def FnExactSameShownSaid : Prop := fnExactSameShownRow.holds Try.pinned (OpenSpec.ofChange fnExactSameShownSpec)

/-- ITS FALSE NEIGHBOUR: 'it returns false'. Refute it at one input. -/
def fnExactSameShownWrong : ChangeSpec := { name := "fnExactSameShown", fn := fun _ => fun
  | [d1, d2] => { results := [.lit (.bool false)], args := [d1, d2] }
  | _ => none }
def FnExactSameShownWrongFalsely : Prop := fnExactSameShownRow.holds Try.pinned (OpenSpec.ofChange fnExactSameShownWrong)

/-- 'laws.FnExactEvenDissolve': WHATEVER THE INPUT: true; the input reads as it did. -/
def fnExactEvenDissolveSpec : ChangeSpec := { name := "fnExactEvenDissolve", fn := fun _ => fun
  | [d1, d2, d3] => { results := [.lit (.bool true)], args := [d1, d2, d3] }
  | _ => none }
def fnExactEvenDissolveRow : OpenClaim := { program := "ythkcamghmfenkaa", sum := "8d5fcc5c815e1f838548b9f574c44b14e13966031b2190b3d708989e46a0494a", func := "loop.example/g01063/laws.FnExactEvenDissolve", spec := "fnExactEvenDissolve", apart := false }
def FnExactEvenDissolveSaid : Prop := fnExactEvenDissolveRow.holds Try.pinned (OpenSpec.ofChange fnExactEvenDissolveSpec)

/-- ITS FALSE NEIGHBOUR: 'it returns false'. Refute it at one input. -/
def fnExactEvenDissolveWrong : ChangeSpec := { name := "fnExactEvenDissolve", fn := fun _ => fun
  | [d1, d2, d3] => { results := [.lit (.bool false)], args := [d1, d2, d3] }
  | _ => none }
def FnExactEvenDissolveWrongFalsely : Prop := fnExactEvenDissolveRow.holds Try.pinned (OpenSpec.ofChange fnExactEvenDissolveWrong)

/-- 'laws.FnExactValidShown': WHATEVER THE INPUT: true; the input reads as it did. -/
def fnExactValidShownSpec : ChangeSpec := { name := "fnExactValidShown", fn := fun _ => fun
  | [d] => { results := [.lit (.bool true)], args := [d] }
  | _ => none }
def fnExactValidShownRow : OpenClaim := { program := "ythkcamghmfenkaa", sum := "8d5fcc5c815e1f838548b9f574c44b14e13966031b2190b3d708989e46a0494a", func := "loop.example/g01063/laws.FnExactValidShown", spec := "fnExactValidShown", unfollowed := true, recurses := true, apart := false }
def FnExactValidShownSaid : Prop := fnExactValidShownRow.holds Try.pinned (OpenSpec.ofChange fnExactValidShownSpec)

/-- ITS FALSE NEIGHBOUR: 'it returns false'. Refute it at one input. -/
def fnExactValidShownWrong : ChangeSpec := { name := "fnExactValidShown", fn := fun _ => fun
  | [d] => { results := [.lit (.bool false)], args := [d] }
  | _ => none }
def FnExactValidShownWrongFalsely : Prop := fnExactValidShownRow.holds Try.pinned (OpenSpec.ofChange fnExactValidShownWrong)

/-- 'laws.FnExactLevelAt': WHATEVER THE INPUT: true; the input reads as it did. -/
def fnExactLevelAtSpec : ChangeSpec := { name := "fnExactLevelAt", fn := fun _ => fun
  | [d1, d2] => { results := [.lit (.bool true)], args := [d1, d2] }
  | _ => none }
def fnExactLevelAtRow : OpenClaim := { program := "ythkcamghmfenkaa", sum := "8d5fcc5c815e1f838548b9f574c44b14e13966031b2190b3d708989e46a0494a", func := "loop.example/g01063/laws.FnExactLevelAt", spec := "fnExactLevelAt", unfollowed := true, recurses := true, apart := false }
def FnExactLevelAtSaid : Prop := fnExactLevelAtRow.holds Try.pinned (OpenSpec.ofChange fnExactLevelAtSpec)

/-- ITS FALSE NEIGHBOUR: 'it returns false'. Refute it at one input. -/
def fnExactLevelAtWrong : ChangeSpec := { name := "fnExactLevelAt", fn := fun _ => fun
  | [d1, d2] => { results := [.lit (.bool false)], args := [d1, d2] }
  | _ => none }
def FnExactLevelAtWrongFalsely : Prop := fnExactLevelAtRow.holds Try.pinned (OpenSpec.ofChange fnExactLevelAtWrong)

/-- 'laws.FnExactFewestLanterns': WHATEVER THE INPUT: true; the input reads as it did. -/
def fnExactFewestLanternsSpec : ChangeSpec := { name := "fnExactFewestLanterns", fn := fun _ => fun
  | [d] => { results := [.lit (.bool true)], args := [d] }
  | _ => none }
def fnExactFewestLanternsRow : OpenClaim := { program := "ythkcamghmfenkaa", sum := "8d5fcc5c815e1f838548b9f574c44b14e13966031b2190b3d708989e46a0494a", func := "loop.example/g01063/laws.FnExactFewestLanterns", spec := "fnExactFewestLanterns", unfollowed := true, recurses := true, apart := false }
def FnExactFewestLanternsSaid : Prop := fnExactFewestLanternsRow.holds Try.pinned (OpenSpec.ofChange fnExactFewestLanternsSpec)

/-- ITS FALSE NEIGHBOUR: 'it returns false'. Refute it at one input. -/
def fnExactFewestLanternsWrong : ChangeSpec := { name := "fnExactFewestLanterns", fn := fun _ => fun
  | [d] => { results := [.lit (.bool false)], args := [d] }
  | _ => none }
def FnExactFewestLanternsWrongFalsely : Prop := fnExactFewestLanternsRow.holds Try.pinned (OpenSpec.ofChange fnExactFewestLanternsWrong)

/-- 'laws.FnExactLightAt': WHATEVER THE INPUT: true; the input reads as it did. -/
def fnExactLightAtSpec : ChangeSpec := { name := "fnExactLightAt", fn := fun _ => fun
  | [d1, d2] => { results := [.lit (.bool true)], args := [d1, d2] }
  | _ => none }
def fnExactLightAtRow : OpenClaim := { program := "ythkcamghmfenkaa", sum := "8d5fcc5c815e1f838548b9f574c44b14e13966031b2190b3d708989e46a0494a", func := "loop.example/g01063/laws.FnExactLightAt", spec := "fnExactLightAt", unfollowed := true, recurses := true, apart := false }
def FnExactLightAtSaid : Prop := fnExactLightAtRow.holds Try.pinned (OpenSpec.ofChange fnExactLightAtSpec)

/-- ITS FALSE NEIGHBOUR: 'it returns false'. Refute it at one input. -/
def fnExactLightAtWrong : ChangeSpec := { name := "fnExactLightAt", fn := fun _ => fun
  | [d1, d2] => { results := [.lit (.bool false)], args := [d1, d2] }
  | _ => none }
def FnExactLightAtWrongFalsely : Prop := fnExactLightAtRow.holds Try.pinned (OpenSpec.ofChange fnExactLightAtWrong)

/-- 'laws.FnExactMoveShown': WHATEVER THE INPUT: true; the input reads as it did. -/
def fnExactMoveShownSpec : ChangeSpec := { name := "fnExactMoveShown", fn := fun _ => fun
  | [d1, d2, d3] => { results := [.lit (.bool true)], args := [d1, d2, d3] }
  | _ => none }
def fnExactMoveShownRow : OpenClaim := { program := "ythkcamghmfenkaa", sum := "8d5fcc5c815e1f838548b9f574c44b14e13966031b2190b3d708989e46a0494a", func := "loop.example/g01063/laws.FnExactMoveShown", spec := "fnExactMoveShown", unfollowed := true, recurses := true, apart := false }
def FnExactMoveShownSaid : Prop := fnExactMoveShownRow.holds Try.pinned (OpenSpec.ofChange fnExactMoveShownSpec)

/-- ITS FALSE NEIGHBOUR: 'it returns false'. Refute it at one input. -/
def fnExactMoveShownWrong : ChangeSpec := { name := "fnExactMoveShown", fn := fun _ => fun
  | [d1, d2, d3] => { results := [.lit (.bool false)], args := [d1, d2, d3] }
  | _ => none }
def FnExactMoveShownWrongFalsely : Prop := fnExactMoveShownRow.holds Try.pinned (OpenSpec.ofChange fnExactMoveShownWrong)

/-- 'laws.FnExactBrightest': WHATEVER THE INPUT: true; the input reads as it did. -/
def fnExactBrightestSpec : ChangeSpec := { name := "fnExactBrightest", fn := fun _ => fun
  | [d] => { results := [.lit (.bool true)], args := [d] }
  | _ => none }
def fnExactBrightestRow : OpenClaim := { program := "ythkcamghmfenkaa", sum := "8d5fcc5c815e1f838548b9f574c44b14e13966031b2190b3d708989e46a0494a", func := "loop.example/g01063/laws.FnExactBrightest", spec := "fnExactBrightest", unfollowed := true, recurses := true, apart := false }
def FnExactBrightestSaid : Prop := fnExactBrightestRow.holds Try.pinned (OpenSpec.ofChange fnExactBrightestSpec)

/-- ITS FALSE NEIGHBOUR: 'it returns false'. Refute it at one input. -/
def fnExactBrightestWrong : ChangeSpec := { name := "fnExactBrightest", fn := fun _ => fun
  | [d] => { results := [.lit (.bool false)], args := [d] }
  | _ => none }
def FnExactBrightestWrongFalsely : Prop := fnExactBrightestRow.holds Try.pinned (OpenSpec.ofChange fnExactBrightestWrong)

/-- 'laws.FnExactFirstDarkTick': WHATEVER THE INPUT: true; the input reads as it did. -/
def fnExactFirstDarkTickSpec : ChangeSpec := { name := "fnExactFirstDarkTick", fn := fun _ => fun
  | [d1, d2, d3] => { results := [.lit (.bool true)], args := [d1, d2, d3] }
  | _ => none }
def fnExactFirstDarkTickRow : OpenClaim := { program := "ythkcamghmfenkaa", sum := "8d5fcc5c815e1f838548b9f574c44b14e13966031b2190b3d708989e46a0494a", func := "loop.example/g01063/laws.FnExactFirstDarkTick", spec := "fnExactFirstDarkTick", unfollowed := true, recurses := true, apart := false }
def FnExactFirstDarkTickSaid : Prop := fnExactFirstDarkTickRow.holds Try.pinned (OpenSpec.ofChange fnExactFirstDarkTickSpec)

/-- ITS FALSE NEIGHBOUR: 'it returns false'. Refute it at one input. -/
def fnExactFirstDarkTickWrong : ChangeSpec := { name := "fnExactFirstDarkTick", fn := fun _ => fun
  | [d1, d2, d3] => { results := [.lit (.bool false)], args := [d1, d2, d3] }
  | _ => none }
def FnExactFirstDarkTickWrongFalsely : Prop := fnExactFirstDarkTickRow.holds Try.pinned (OpenSpec.ofChange fnExactFirstDarkTickWrong)

/-- 'laws.FnExactDarkTicks': WHATEVER THE INPUT: true; the input reads as it did. -/
def fnExactDarkTicksSpec : ChangeSpec := { name := "fnExactDarkTicks", fn := fun _ => fun
  | [d1, d2, d3] => { results := [.lit (.bool true)], args := [d1, d2, d3] }
  | _ => none }
def fnExactDarkTicksRow : OpenClaim := { program := "ythkcamghmfenkaa", sum := "8d5fcc5c815e1f838548b9f574c44b14e13966031b2190b3d708989e46a0494a", func := "loop.example/g01063/laws.FnExactDarkTicks", spec := "fnExactDarkTicks", unfollowed := true, recurses := true, apart := false }
def FnExactDarkTicksSaid : Prop := fnExactDarkTicksRow.holds Try.pinned (OpenSpec.ofChange fnExactDarkTicksSpec)

/-- ITS FALSE NEIGHBOUR: 'it returns false'. Refute it at one input. -/
def fnExactDarkTicksWrong : ChangeSpec := { name := "fnExactDarkTicks", fn := fun _ => fun
  | [d1, d2, d3] => { results := [.lit (.bool false)], args := [d1, d2, d3] }
  | _ => none }
def FnExactDarkTicksWrongFalsely : Prop := fnExactDarkTicksRow.holds Try.pinned (OpenSpec.ofChange fnExactDarkTicksWrong)

/-- 'laws.FnExactAssignLanterns': WHATEVER THE INPUT: true; the input reads as it did. -/
def fnExactAssignLanternsSpec : ChangeSpec := { name := "fnExactAssignLanterns", fn := fun _ => fun
  | [d] => { results := [.lit (.bool true)], args := [d] }
  | _ => none }
def fnExactAssignLanternsRow : OpenClaim := { program := "ythkcamghmfenkaa", sum := "8d5fcc5c815e1f838548b9f574c44b14e13966031b2190b3d708989e46a0494a", func := "loop.example/g01063/laws.FnExactAssignLanterns", spec := "fnExactAssignLanterns", unfollowed := true, recurses := true, apart := false }
def FnExactAssignLanternsSaid : Prop := fnExactAssignLanternsRow.holds Try.pinned (OpenSpec.ofChange fnExactAssignLanternsSpec)

/-- ITS FALSE NEIGHBOUR: 'it returns false'. Refute it at one input. -/
def fnExactAssignLanternsWrong : ChangeSpec := { name := "fnExactAssignLanterns", fn := fun _ => fun
  | [d] => { results := [.lit (.bool false)], args := [d] }
  | _ => none }
def FnExactAssignLanternsWrongFalsely : Prop := fnExactAssignLanternsRow.holds Try.pinned (OpenSpec.ofChange fnExactAssignLanternsWrong)

/- THE SECOND FORM. 'bulk': how many values and letters a reading holds, each counted each time it is reached (what is shared counts as often as it is met; a slice's spare places count too). A statement '..UptoSaid' is the law's where the arguments, and the package variables that the reading takes, are together of bulk at most 1048576: NARROWER than '..Said'. Prove '..Said' where nothing that the law and all that it calls make is longer than what came in: it says more and counts as full. Else prove '..UptoSaid'. A law counts once. -/
mutual
def uptoBulk {H : Type} : DataW H → Nat
  | .lit (.string bytes) => bytes.length + 1
  | .lit _ => 1
  | .nil => 1
  | .ptr d => uptoBulk d + 1
  | .slice elems spare => uptoBulkAll elems + uptoBulkAll spare + 1
  | .agg parts => uptoBulkAll parts + 1
  | .iface _ d => uptoBulk d + 1
  | .map entries => uptoBulkEntries entries + 1
  | .held _ => 1
def uptoBulkAll {H : Type} : List (DataW H) → Nat
  | [] => 0
  | d :: r => uptoBulk d + uptoBulkAll r
def uptoBulkEntries {H : Type} : List (Lit × DataW H) → Nat
  | [] => 0
  | x :: r => uptoBulkEntry x + uptoBulkEntries r
def uptoBulkEntry {H : Type} : Lit × DataW H → Nat
  | (.string bytes, d) => bytes.length + uptoBulk d + 1
  | (_, d) => uptoBulk d + 1
 end
def uptoSmall : (H : Type) → List (DataW H) → Bool := fun _ ds => decide (uptoBulkAll ds ≤ 1048576)
def OpenSpec.upto (s : _root_.Go.ChangeSpec) : _root_.Go.OpenSpec := { _root_.Go.OpenSpec.ofChange s with cond := some uptoSmall }

/-- 'laws.FnExactSameShown', WHERE WHAT IT READS IS OF BULK AT MOST 1048576: true; the input reads as it did. -/
def fnExactSameShownUptoRow : OpenClaim := { program := "ythkcamghmfenkaa", sum := "8d5fcc5c815e1f838548b9f574c44b14e13966031b2190b3d708989e46a0494a", func := "loop.example/g01063/laws.FnExactSameShown", spec := "fnExactSameShown", apart := false, narrowed := true }
def FnExactSameShownUptoSaid : Prop := fnExactSameShownUptoRow.holds Try.pinned (OpenSpec.upto fnExactSameShownSpec)

/-- 'laws.FnExactEvenDissolve', WHERE WHAT IT READS IS OF BULK AT MOST 1048576: true; the input reads as it did. -/
def fnExactEvenDissolveUptoRow : OpenClaim := { program := "ythkcamghmfenkaa", sum := "8d5fcc5c815e1f838548b9f574c44b14e13966031b2190b3d708989e46a0494a", func := "loop.example/g01063/laws.FnExactEvenDissolve", spec := "fnExactEvenDissolve", apart := false, narrowed := true }
def FnExactEvenDissolveUptoSaid : Prop := fnExactEvenDissolveUptoRow.holds Try.pinned (OpenSpec.upto fnExactEvenDissolveSpec)

/-- 'laws.FnExactValidShown', WHERE WHAT IT READS IS OF BULK AT MOST 1048576: true; the input reads as it did. -/
def fnExactValidShownUptoRow : OpenClaim := { program := "ythkcamghmfenkaa", sum := "8d5fcc5c815e1f838548b9f574c44b14e13966031b2190b3d708989e46a0494a", func := "loop.example/g01063/laws.FnExactValidShown", spec := "fnExactValidShown", unfollowed := true, recurses := true, apart := false, narrowed := true }
def FnExactValidShownUptoSaid : Prop := fnExactValidShownUptoRow.holds Try.pinned (OpenSpec.upto fnExactValidShownSpec)

/-- 'laws.FnExactLevelAt', WHERE WHAT IT READS IS OF BULK AT MOST 1048576: true; the input reads as it did. -/
def fnExactLevelAtUptoRow : OpenClaim := { program := "ythkcamghmfenkaa", sum := "8d5fcc5c815e1f838548b9f574c44b14e13966031b2190b3d708989e46a0494a", func := "loop.example/g01063/laws.FnExactLevelAt", spec := "fnExactLevelAt", unfollowed := true, recurses := true, apart := false, narrowed := true }
def FnExactLevelAtUptoSaid : Prop := fnExactLevelAtUptoRow.holds Try.pinned (OpenSpec.upto fnExactLevelAtSpec)

/-- 'laws.FnExactFewestLanterns', WHERE WHAT IT READS IS OF BULK AT MOST 1048576: true; the input reads as it did. -/
def fnExactFewestLanternsUptoRow : OpenClaim := { program := "ythkcamghmfenkaa", sum := "8d5fcc5c815e1f838548b9f574c44b14e13966031b2190b3d708989e46a0494a", func := "loop.example/g01063/laws.FnExactFewestLanterns", spec := "fnExactFewestLanterns", unfollowed := true, recurses := true, apart := false, narrowed := true }
def FnExactFewestLanternsUptoSaid : Prop := fnExactFewestLanternsUptoRow.holds Try.pinned (OpenSpec.upto fnExactFewestLanternsSpec)

/-- 'laws.FnExactLightAt', WHERE WHAT IT READS IS OF BULK AT MOST 1048576: true; the input reads as it did. -/
def fnExactLightAtUptoRow : OpenClaim := { program := "ythkcamghmfenkaa", sum := "8d5fcc5c815e1f838548b9f574c44b14e13966031b2190b3d708989e46a0494a", func := "loop.example/g01063/laws.FnExactLightAt", spec := "fnExactLightAt", unfollowed := true, recurses := true, apart := false, narrowed := true }
def FnExactLightAtUptoSaid : Prop := fnExactLightAtUptoRow.holds Try.pinned (OpenSpec.upto fnExactLightAtSpec)

/-- 'laws.FnExactMoveShown', WHERE WHAT IT READS IS OF BULK AT MOST 1048576: true; the input reads as it did. -/
def fnExactMoveShownUptoRow : OpenClaim := { program := "ythkcamghmfenkaa", sum := "8d5fcc5c815e1f838548b9f574c44b14e13966031b2190b3d708989e46a0494a", func := "loop.example/g01063/laws.FnExactMoveShown", spec := "fnExactMoveShown", unfollowed := true, recurses := true, apart := false, narrowed := true }
def FnExactMoveShownUptoSaid : Prop := fnExactMoveShownUptoRow.holds Try.pinned (OpenSpec.upto fnExactMoveShownSpec)

/-- 'laws.FnExactBrightest', WHERE WHAT IT READS IS OF BULK AT MOST 1048576: true; the input reads as it did. -/
def fnExactBrightestUptoRow : OpenClaim := { program := "ythkcamghmfenkaa", sum := "8d5fcc5c815e1f838548b9f574c44b14e13966031b2190b3d708989e46a0494a", func := "loop.example/g01063/laws.FnExactBrightest", spec := "fnExactBrightest", unfollowed := true, recurses := true, apart := false, narrowed := true }
def FnExactBrightestUptoSaid : Prop := fnExactBrightestUptoRow.holds Try.pinned (OpenSpec.upto fnExactBrightestSpec)

/-- 'laws.FnExactFirstDarkTick', WHERE WHAT IT READS IS OF BULK AT MOST 1048576: true; the input reads as it did. -/
def fnExactFirstDarkTickUptoRow : OpenClaim := { program := "ythkcamghmfenkaa", sum := "8d5fcc5c815e1f838548b9f574c44b14e13966031b2190b3d708989e46a0494a", func := "loop.example/g01063/laws.FnExactFirstDarkTick", spec := "fnExactFirstDarkTick", unfollowed := true, recurses := true, apart := false, narrowed := true }
def FnExactFirstDarkTickUptoSaid : Prop := fnExactFirstDarkTickUptoRow.holds Try.pinned (OpenSpec.upto fnExactFirstDarkTickSpec)

/-- 'laws.FnExactDarkTicks', WHERE WHAT IT READS IS OF BULK AT MOST 1048576: true; the input reads as it did. -/
def fnExactDarkTicksUptoRow : OpenClaim := { program := "ythkcamghmfenkaa", sum := "8d5fcc5c815e1f838548b9f574c44b14e13966031b2190b3d708989e46a0494a", func := "loop.example/g01063/laws.FnExactDarkTicks", spec := "fnExactDarkTicks", unfollowed := true, recurses := true, apart := false, narrowed := true }
def FnExactDarkTicksUptoSaid : Prop := fnExactDarkTicksUptoRow.holds Try.pinned (OpenSpec.upto fnExactDarkTicksSpec)

/-- 'laws.FnExactAssignLanterns', WHERE WHAT IT READS IS OF BULK AT MOST 1048576: true; the input reads as it did. -/
def fnExactAssignLanternsUptoRow : OpenClaim := { program := "ythkcamghmfenkaa", sum := "8d5fcc5c815e1f838548b9f574c44b14e13966031b2190b3d708989e46a0494a", func := "loop.example/g01063/laws.FnExactAssignLanterns", spec := "fnExactAssignLanterns", unfollowed := true, recurses := true, apart := false, narrowed := true }
def FnExactAssignLanternsUptoSaid : Prop := fnExactAssignLanternsUptoRow.holds Try.pinned (OpenSpec.upto fnExactAssignLanternsSpec)

end Rows
end Go.Proofs.Ythkcamghmfenkaa
