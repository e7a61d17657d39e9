/-
  No cell of these rows narrows 'for every input' (looked for: loops, veiled, ifaces, maps, wideKeys, modest, calm, conditions, laid).
  DERIVED. THE GIVEN ROWS OF THIS SEAT. 9 by the template 'for every input the law returns true; each argument reads behind the call as it read before'; 0 by the template 'total and deterministic' (their statements: YtodfomglhlamoaaTotals.lean).
  GIVEN WITH THE SEED: the statements are not yours to turn. If you find one false, say at which input.
  Laid BY PROGRAM, IN A SANDBOX (cutbox-rows.mjs): the forced cells as the released guide's own fill.sh prints them over the translation 71d1c4c08c9e3ed3… (all of the seat's roots in one cut). By AI agents, Wed Nov 11 2026. No macro, syntax, notation, axiom, sorry.
-/
import Derived.Test.YtodfomglhlamoaaChecked
import GoSem.Claim
import GoSem.ClaimJoined
import GoSem.ClaimMapViews
import Derived.JoinedTies
import Derived.KernelRfl
namespace Go.Proofs.Ytodfomglhlamoaa
/- THE CELL 'sum', in the pinned program and in every row, IS THE sha256 OF THE DUMP (.gsa) THAT YtodfomglhlamoaaProg.lean LOADS. Nothing in Lean hashes anything: it is a label: what it is worth is what the hold of that sum in a sandbox is worth. -/
noncomputable def Try.pinned : Pinned := { name := "ytodfomglhlamoaa", sum := "71d1c4c08c9e3ed3872b2c5e93351395055afc31cbb2b5226c147b1d2fb509e2", checked := Try.checked }
namespace Rows
def none {H : Type} : Left H := { results := [], args := [] }

/-- 'laws.FnExactValidShowing': WHATEVER THE INPUT: true; the input reads as it did. -/
def fnExactValidShowingSpec : ChangeSpec := { name := "fnExactValidShowing", fn := fun _ => fun
  | [d] => { results := [.lit (.bool true)], args := [d] }
  | _ => none }
def fnExactValidShowingRow : OpenClaim := { program := "ytodfomglhlamoaa", sum := "71d1c4c08c9e3ed3872b2c5e93351395055afc31cbb2b5226c147b1d2fb509e2", func := "loop.example/g01063/laws.FnExactValidShowing", spec := "fnExactValidShowing", apart := false }
def FnExactValidShowingSaid : Prop := fnExactValidShowingRow.holds Try.pinned (OpenSpec.ofChange fnExactValidShowingSpec)

/-- ITS FALSE NEIGHBOUR: 'it returns false'. Refute it at one input. -/
def fnExactValidShowingWrong : ChangeSpec := { name := "fnExactValidShowing", fn := fun _ => fun
  | [d] => { results := [.lit (.bool false)], args := [d] }
  | _ => none }
def FnExactValidShowingWrongFalsely : Prop := fnExactValidShowingRow.holds Try.pinned (OpenSpec.ofChange fnExactValidShowingWrong)

/-- 'laws.FnExactNextShown': WHATEVER THE INPUT: true; the input reads as it did. -/
def fnExactNextShownSpec : ChangeSpec := { name := "fnExactNextShown", fn := fun _ => fun
  | [d1, d2] => { results := [.lit (.bool true)], args := [d1, d2] }
  | _ => none }
def fnExactNextShownRow : OpenClaim := { program := "ytodfomglhlamoaa", sum := "71d1c4c08c9e3ed3872b2c5e93351395055afc31cbb2b5226c147b1d2fb509e2", func := "loop.example/g01063/laws.FnExactNextShown", spec := "fnExactNextShown", inPlace := ["internal/bytealg.IndexByteString"], apart := false }
def FnExactNextShownSaid : Prop := fnExactNextShownRow.holds Try.pinned (OpenSpec.ofChange fnExactNextShownSpec)

/-- ITS FALSE NEIGHBOUR: 'it returns false'. Refute it at one input. -/
def fnExactNextShownWrong : ChangeSpec := { name := "fnExactNextShown", fn := fun _ => fun
  | [d1, d2] => { results := [.lit (.bool false)], args := [d1, d2] }
  | _ => none }
def FnExactNextShownWrongFalsely : Prop := fnExactNextShownRow.holds Try.pinned (OpenSpec.ofChange fnExactNextShownWrong)

/-- 'laws.FnExactLoadsOf': WHATEVER THE INPUT: true; the input reads as it did. -/
def fnExactLoadsOfSpec : ChangeSpec := { name := "fnExactLoadsOf", fn := fun _ => fun
  | [d1, d2, d3] => { results := [.lit (.bool true)], args := [d1, d2, d3] }
  | _ => none }
def fnExactLoadsOfRow : OpenClaim := { program := "ytodfomglhlamoaa", sum := "71d1c4c08c9e3ed3872b2c5e93351395055afc31cbb2b5226c147b1d2fb509e2", func := "loop.example/g01063/laws.FnExactLoadsOf", spec := "fnExactLoadsOf", unfollowed := true, recurses := true, apart := false }
def FnExactLoadsOfSaid : Prop := fnExactLoadsOfRow.holds Try.pinned (OpenSpec.ofChange fnExactLoadsOfSpec)

/-- ITS FALSE NEIGHBOUR: 'it returns false'. Refute it at one input. -/
def fnExactLoadsOfWrong : ChangeSpec := { name := "fnExactLoadsOf", fn := fun _ => fun
  | [d1, d2, d3] => { results := [.lit (.bool false)], args := [d1, d2, d3] }
  | _ => none }
def FnExactLoadsOfWrongFalsely : Prop := fnExactLoadsOfRow.holds Try.pinned (OpenSpec.ofChange fnExactLoadsOfWrong)

/-- 'laws.FnExactLoadsLongest': WHATEVER THE INPUT: true; the input reads as it did. -/
def fnExactLoadsLongestSpec : ChangeSpec := { name := "fnExactLoadsLongest", fn := fun _ => fun
  | [d1, d2] => { results := [.lit (.bool true)], args := [d1, d2] }
  | _ => none }
def fnExactLoadsLongestRow : OpenClaim := { program := "ytodfomglhlamoaa", sum := "71d1c4c08c9e3ed3872b2c5e93351395055afc31cbb2b5226c147b1d2fb509e2", func := "loop.example/g01063/laws.FnExactLoadsLongest", spec := "fnExactLoadsLongest", apart := false }
def FnExactLoadsLongestSaid : Prop := fnExactLoadsLongestRow.holds Try.pinned (OpenSpec.ofChange fnExactLoadsLongestSpec)

/-- ITS FALSE NEIGHBOUR: 'it returns false'. Refute it at one input. -/
def fnExactLoadsLongestWrong : ChangeSpec := { name := "fnExactLoadsLongest", fn := fun _ => fun
  | [d1, d2] => { results := [.lit (.bool false)], args := [d1, d2] }
  | _ => none }
def FnExactLoadsLongestWrongFalsely : Prop := fnExactLoadsLongestRow.holds Try.pinned (OpenSpec.ofChange fnExactLoadsLongestWrong)

/-- 'laws.FnExactLoadsOldest': WHATEVER THE INPUT: true; the input reads as it did. -/
def fnExactLoadsOldestSpec : ChangeSpec := { name := "fnExactLoadsOldest", fn := fun _ => fun
  | [d1, d2] => { results := [.lit (.bool true)], args := [d1, d2] }
  | _ => none }
def fnExactLoadsOldestRow : OpenClaim := { program := "ytodfomglhlamoaa", sum := "71d1c4c08c9e3ed3872b2c5e93351395055afc31cbb2b5226c147b1d2fb509e2", func := "loop.example/g01063/laws.FnExactLoadsOldest", spec := "fnExactLoadsOldest", apart := false }
def FnExactLoadsOldestSaid : Prop := fnExactLoadsOldestRow.holds Try.pinned (OpenSpec.ofChange fnExactLoadsOldestSpec)

/-- ITS FALSE NEIGHBOUR: 'it returns false'. Refute it at one input. -/
def fnExactLoadsOldestWrong : ChangeSpec := { name := "fnExactLoadsOldest", fn := fun _ => fun
  | [d1, d2] => { results := [.lit (.bool false)], args := [d1, d2] }
  | _ => none }
def FnExactLoadsOldestWrongFalsely : Prop := fnExactLoadsOldestRow.holds Try.pinned (OpenSpec.ofChange fnExactLoadsOldestWrong)

/-- 'laws.FnExactLeastPlaces': WHATEVER THE INPUT: true; the input reads as it did. -/
def fnExactLeastPlacesSpec : ChangeSpec := { name := "fnExactLeastPlaces", fn := fun _ => fun
  | [d1, d2] => { results := [.lit (.bool true)], args := [d1, d2] }
  | _ => none }
def fnExactLeastPlacesRow : OpenClaim := { program := "ytodfomglhlamoaa", sum := "71d1c4c08c9e3ed3872b2c5e93351395055afc31cbb2b5226c147b1d2fb509e2", func := "loop.example/g01063/laws.FnExactLeastPlaces", spec := "fnExactLeastPlaces", inPlace := ["internal/bytealg.IndexByteString"], apart := false }
def FnExactLeastPlacesSaid : Prop := fnExactLeastPlacesRow.holds Try.pinned (OpenSpec.ofChange fnExactLeastPlacesSpec)

/-- ITS FALSE NEIGHBOUR: 'it returns false'. Refute it at one input. -/
def fnExactLeastPlacesWrong : ChangeSpec := { name := "fnExactLeastPlaces", fn := fun _ => fun
  | [d1, d2] => { results := [.lit (.bool false)], args := [d1, d2] }
  | _ => none }
def FnExactLeastPlacesWrongFalsely : Prop := fnExactLeastPlacesRow.holds Try.pinned (OpenSpec.ofChange fnExactLeastPlacesWrong)

/-- 'laws.FnExactFewestLoads': WHATEVER THE INPUT: true; the input reads as it did. -/
def fnExactFewestLoadsSpec : ChangeSpec := { name := "fnExactFewestLoads", fn := fun _ => fun
  | [d1, d2] => { results := [.lit (.bool true)], args := [d1, d2] }
  | _ => none }
def fnExactFewestLoadsRow : OpenClaim := { program := "ytodfomglhlamoaa", sum := "71d1c4c08c9e3ed3872b2c5e93351395055afc31cbb2b5226c147b1d2fb509e2", func := "loop.example/g01063/laws.FnExactFewestLoads", spec := "fnExactFewestLoads", inPlace := ["internal/bytealg.IndexByteString"], apart := false }
def FnExactFewestLoadsSaid : Prop := fnExactFewestLoadsRow.holds Try.pinned (OpenSpec.ofChange fnExactFewestLoadsSpec)

/-- ITS FALSE NEIGHBOUR: 'it returns false'. Refute it at one input. -/
def fnExactFewestLoadsWrong : ChangeSpec := { name := "fnExactFewestLoads", fn := fun _ => fun
  | [d1, d2] => { results := [.lit (.bool false)], args := [d1, d2] }
  | _ => none }
def FnExactFewestLoadsWrongFalsely : Prop := fnExactFewestLoadsRow.holds Try.pinned (OpenSpec.ofChange fnExactFewestLoadsWrong)

/-- 'laws.FnExactBestLoading': WHATEVER THE INPUT: true; the input reads as it did. -/
def fnExactBestLoadingSpec : ChangeSpec := { name := "fnExactBestLoading", fn := fun _ => fun
  | [d1, d2] => { results := [.lit (.bool true)], args := [d1, d2] }
  | _ => none }
def fnExactBestLoadingRow : OpenClaim := { program := "ytodfomglhlamoaa", sum := "71d1c4c08c9e3ed3872b2c5e93351395055afc31cbb2b5226c147b1d2fb509e2", func := "loop.example/g01063/laws.FnExactBestLoading", spec := "fnExactBestLoading", inPlace := ["internal/bytealg.IndexByteString"], apart := false }
def FnExactBestLoadingSaid : Prop := fnExactBestLoadingRow.holds Try.pinned (OpenSpec.ofChange fnExactBestLoadingSpec)

/-- ITS FALSE NEIGHBOUR: 'it returns false'. Refute it at one input. -/
def fnExactBestLoadingWrong : ChangeSpec := { name := "fnExactBestLoading", fn := fun _ => fun
  | [d1, d2] => { results := [.lit (.bool false)], args := [d1, d2] }
  | _ => none }
def FnExactBestLoadingWrongFalsely : Prop := fnExactBestLoadingRow.holds Try.pinned (OpenSpec.ofChange fnExactBestLoadingWrong)

/-- 'laws.FnExactSlidesIn': WHATEVER THE INPUT: true; the input reads as it did. -/
def fnExactSlidesInSpec : ChangeSpec := { name := "fnExactSlidesIn", fn := fun _ => fun
  | [d] => { results := [.lit (.bool true)], args := [d] }
  | _ => none }
def fnExactSlidesInRow : OpenClaim := { program := "ytodfomglhlamoaa", sum := "71d1c4c08c9e3ed3872b2c5e93351395055afc31cbb2b5226c147b1d2fb509e2", func := "loop.example/g01063/laws.FnExactSlidesIn", spec := "fnExactSlidesIn", recurses := true, apart := false }
def FnExactSlidesInSaid : Prop := fnExactSlidesInRow.holds Try.pinned (OpenSpec.ofChange fnExactSlidesInSpec)

/-- ITS FALSE NEIGHBOUR: 'it returns false'. Refute it at one input. -/
def fnExactSlidesInWrong : ChangeSpec := { name := "fnExactSlidesIn", fn := fun _ => fun
  | [d] => { results := [.lit (.bool false)], args := [d] }
  | _ => none }
def FnExactSlidesInWrongFalsely : Prop := fnExactSlidesInRow.holds Try.pinned (OpenSpec.ofChange fnExactSlidesInWrong)

/- THE SECOND FORM. 'bulk': how many values and letters a reading holds, each counted each time it is reached (what is shared counts as often as it is met; a slice's spare places count too). A statement '..UptoSaid' is the law's where the arguments, and the package variables that the reading takes, are together of bulk at most 1048576: NARROWER than '..Said'. Prove '..Said' where nothing that the law and all that it calls make is longer than what came in: it says more and counts as full. Else prove '..UptoSaid'. A law counts once. -/
mutual
def uptoBulk {H : Type} : DataW H → Nat
  | .lit (.string bytes) => bytes.length + 1
  | .lit _ => 1
  | .nil => 1
  | .ptr d => uptoBulk d + 1
  | .slice elems spare => uptoBulkAll elems + uptoBulkAll spare + 1
  | .agg parts => uptoBulkAll parts + 1
  | .iface _ d => uptoBulk d + 1
  | .map entries => uptoBulkEntries entries + 1
  | .held _ => 1
def uptoBulkAll {H : Type} : List (DataW H) → Nat
  | [] => 0
  | d :: r => uptoBulk d + uptoBulkAll r
def uptoBulkEntries {H : Type} : List (Lit × DataW H) → Nat
  | [] => 0
  | x :: r => uptoBulkEntry x + uptoBulkEntries r
def uptoBulkEntry {H : Type} : Lit × DataW H → Nat
  | (.string bytes, d) => bytes.length + uptoBulk d + 1
  | (_, d) => uptoBulk d + 1
 end
def uptoSmall : (H : Type) → List (DataW H) → Bool := fun _ ds => decide (uptoBulkAll ds ≤ 1048576)
def OpenSpec.upto (s : _root_.Go.ChangeSpec) : _root_.Go.OpenSpec := { _root_.Go.OpenSpec.ofChange s with cond := some uptoSmall }

/-- 'laws.FnExactValidShowing', WHERE WHAT IT READS IS OF BULK AT MOST 1048576: true; the input reads as it did. -/
def fnExactValidShowingUptoRow : OpenClaim := { program := "ytodfomglhlamoaa", sum := "71d1c4c08c9e3ed3872b2c5e93351395055afc31cbb2b5226c147b1d2fb509e2", func := "loop.example/g01063/laws.FnExactValidShowing", spec := "fnExactValidShowing", apart := false, narrowed := true }
def FnExactValidShowingUptoSaid : Prop := fnExactValidShowingUptoRow.holds Try.pinned (OpenSpec.upto fnExactValidShowingSpec)

/-- 'laws.FnExactNextShown', WHERE WHAT IT READS IS OF BULK AT MOST 1048576: true; the input reads as it did. -/
def fnExactNextShownUptoRow : OpenClaim := { program := "ytodfomglhlamoaa", sum := "71d1c4c08c9e3ed3872b2c5e93351395055afc31cbb2b5226c147b1d2fb509e2", func := "loop.example/g01063/laws.FnExactNextShown", spec := "fnExactNextShown", inPlace := ["internal/bytealg.IndexByteString"], apart := false, narrowed := true }
def FnExactNextShownUptoSaid : Prop := fnExactNextShownUptoRow.holds Try.pinned (OpenSpec.upto fnExactNextShownSpec)

/-- 'laws.FnExactLoadsOf', WHERE WHAT IT READS IS OF BULK AT MOST 1048576: true; the input reads as it did. -/
def fnExactLoadsOfUptoRow : OpenClaim := { program := "ytodfomglhlamoaa", sum := "71d1c4c08c9e3ed3872b2c5e93351395055afc31cbb2b5226c147b1d2fb509e2", func := "loop.example/g01063/laws.FnExactLoadsOf", spec := "fnExactLoadsOf", unfollowed := true, recurses := true, apart := false, narrowed := true }
def FnExactLoadsOfUptoSaid : Prop := fnExactLoadsOfUptoRow.holds Try.pinned (OpenSpec.upto fnExactLoadsOfSpec)

/-- 'laws.FnExactLoadsLongest', WHERE WHAT IT READS IS OF BULK AT MOST 1048576: true; the input reads as it did. -/
def fnExactLoadsLongestUptoRow : OpenClaim := { program := "ytodfomglhlamoaa", sum := "71d1c4c08c9e3ed3872b2c5e93351395055afc31cbb2b5226c147b1d2fb509e2", func := "loop.example/g01063/laws.FnExactLoadsLongest", spec := "fnExactLoadsLongest", apart := false, narrowed := true }
def FnExactLoadsLongestUptoSaid : Prop := fnExactLoadsLongestUptoRow.holds Try.pinned (OpenSpec.upto fnExactLoadsLongestSpec)

/-- 'laws.FnExactLoadsOldest', WHERE WHAT IT READS IS OF BULK AT MOST 1048576: true; the input reads as it did. -/
def fnExactLoadsOldestUptoRow : OpenClaim := { program := "ytodfomglhlamoaa", sum := "71d1c4c08c9e3ed3872b2c5e93351395055afc31cbb2b5226c147b1d2fb509e2", func := "loop.example/g01063/laws.FnExactLoadsOldest", spec := "fnExactLoadsOldest", apart := false, narrowed := true }
def FnExactLoadsOldestUptoSaid : Prop := fnExactLoadsOldestUptoRow.holds Try.pinned (OpenSpec.upto fnExactLoadsOldestSpec)

/-- 'laws.FnExactLeastPlaces', WHERE WHAT IT READS IS OF BULK AT MOST 1048576: true; the input reads as it did. -/
def fnExactLeastPlacesUptoRow : OpenClaim := { program := "ytodfomglhlamoaa", sum := "71d1c4c08c9e3ed3872b2c5e93351395055afc31cbb2b5226c147b1d2fb509e2", func := "loop.example/g01063/laws.FnExactLeastPlaces", spec := "fnExactLeastPlaces", inPlace := ["internal/bytealg.IndexByteString"], apart := false, narrowed := true }
def FnExactLeastPlacesUptoSaid : Prop := fnExactLeastPlacesUptoRow.holds Try.pinned (OpenSpec.upto fnExactLeastPlacesSpec)

/-- 'laws.FnExactFewestLoads', WHERE WHAT IT READS IS OF BULK AT MOST 1048576: true; the input reads as it did. -/
def fnExactFewestLoadsUptoRow : OpenClaim := { program := "ytodfomglhlamoaa", sum := "71d1c4c08c9e3ed3872b2c5e93351395055afc31cbb2b5226c147b1d2fb509e2", func := "loop.example/g01063/laws.FnExactFewestLoads", spec := "fnExactFewestLoads", inPlace := ["internal/bytealg.IndexByteString"], apart := false, narrowed := true }
def FnExactFewestLoadsUptoSaid : Prop := fnExactFewestLoadsUptoRow.holds Try.pinned (OpenSpec.upto fnExactFewestLoadsSpec)

/-- 'laws.FnExactBestLoading', WHERE WHAT IT READS IS OF BULK AT MOST 1048576: true; the input reads as it did. -/
def fnExactBestLoadingUptoRow : OpenClaim := { program := "ytodfomglhlamoaa", sum := "71d1c4c08c9e3ed3872b2c5e93351395055afc31cbb2b5226c147b1d2fb509e2", func := "loop.example/g01063/laws.FnExactBestLoading", spec := "fnExactBestLoading", inPlace := ["internal/bytealg.IndexByteString"], apart := false, narrowed := true }
def FnExactBestLoadingUptoSaid : Prop := fnExactBestLoadingUptoRow.holds Try.pinned (OpenSpec.upto fnExactBestLoadingSpec)

/-- 'laws.FnExactSlidesIn', WHERE WHAT IT READS IS OF BULK AT MOST 1048576: true; the input reads as it did. -/
def fnExactSlidesInUptoRow : OpenClaim := { program := "ytodfomglhlamoaa", sum := "71d1c4c08c9e3ed3872b2c5e93351395055afc31cbb2b5226c147b1d2fb509e2", func := "loop.example/g01063/laws.FnExactSlidesIn", spec := "fnExactSlidesIn", recurses := true, apart := false, narrowed := true }
def FnExactSlidesInUptoSaid : Prop := fnExactSlidesInUptoRow.holds Try.pinned (OpenSpec.upto fnExactSlidesInSpec)

end Rows
end Go.Proofs.Ytodfomglhlamoaa
