/-
  No cell of these rows narrows 'for every input' (looked for: loops, veiled, ifaces, maps, wideKeys, modest, calm, conditions, laid).
  DERIVED. THE GIVEN ROWS OF THIS SEAT. 10 by the template 'for every input the law returns true; each argument reads behind the call as it read before'; 0 by the template 'total and deterministic' (their statements: YtkjdinhbfoghnaaTotals.lean).
  GIVEN WITH THE SEED: the statements are not yours to turn. If you find one false, say at which input.
  Laid BY PROGRAM, IN A SANDBOX (cutbox-rows.mjs): the forced cells as the released guide's own fill.sh prints them over the translation acbb752d714011d5… (all of the seat's roots in one cut). By AI agents, Wed Nov 11 2026. No macro, syntax, notation, axiom, sorry.
-/
import Derived.Test.YtkjdinhbfoghnaaChecked
import GoSem.Claim
import GoSem.ClaimJoined
import GoSem.ClaimMapViews
import Derived.JoinedTies
import Derived.KernelRfl
namespace Go.Proofs.Ytkjdinhbfoghnaa
/- THE CELL 'sum', in the pinned program and in every row, IS THE sha256 OF THE DUMP (.gsa) THAT YtkjdinhbfoghnaaProg.lean LOADS. Nothing in Lean hashes anything: it is a label: what it is worth is what the hold of that sum in a sandbox is worth. -/
noncomputable def Try.pinned : Pinned := { name := "ytkjdinhbfoghnaa", sum := "acbb752d714011d5366c2de8a6381592987d2989597486303bb4a47ad5a2a495", checked := Try.checked }
namespace Rows
def none {H : Type} : Left H := { results := [], args := [] }

/-- 'laws.FnExactSameFrames': WHATEVER THE INPUT: true; the input reads as it did. -/
def fnExactSameFramesSpec : ChangeSpec := { name := "fnExactSameFrames", fn := fun _ => fun
  | [d1, d2] => { results := [.lit (.bool true)], args := [d1, d2] }
  | _ => none }
def fnExactSameFramesRow : OpenClaim := { program := "ytkjdinhbfoghnaa", sum := "acbb752d714011d5366c2de8a6381592987d2989597486303bb4a47ad5a2a495", func := "loop.example/g01063/laws.FnExactSameFrames", spec := "fnExactSameFrames", apart := false }
def FnExactSameFramesSaid : Prop := fnExactSameFramesRow.holds Try.pinned (OpenSpec.ofChange fnExactSameFramesSpec)

/-- ITS FALSE NEIGHBOUR: 'it returns false'. Refute it at one input. -/
def fnExactSameFramesWrong : ChangeSpec := { name := "fnExactSameFrames", fn := fun _ => fun
  | [d1, d2] => { results := [.lit (.bool false)], args := [d1, d2] }
  | _ => none }
def FnExactSameFramesWrongFalsely : Prop := fnExactSameFramesRow.holds Try.pinned (OpenSpec.ofChange fnExactSameFramesWrong)

/-- 'laws.FnExactValidFrames': WHATEVER THE INPUT: true; the input reads as it did. -/
def fnExactValidFramesSpec : ChangeSpec := { name := "fnExactValidFrames", fn := fun _ => fun
  | [d] => { results := [.lit (.bool true)], args := [d] }
  | _ => none }
def fnExactValidFramesRow : OpenClaim := { program := "ytkjdinhbfoghnaa", sum := "acbb752d714011d5366c2de8a6381592987d2989597486303bb4a47ad5a2a495", func := "loop.example/g01063/laws.FnExactValidFrames", spec := "fnExactValidFrames", unfollowed := true, recurses := true, apart := false }
def FnExactValidFramesSaid : Prop := fnExactValidFramesRow.holds Try.pinned (OpenSpec.ofChange fnExactValidFramesSpec)

/-- ITS FALSE NEIGHBOUR: 'it returns false'. Refute it at one input. -/
def fnExactValidFramesWrong : ChangeSpec := { name := "fnExactValidFrames", fn := fun _ => fun
  | [d] => { results := [.lit (.bool false)], args := [d] }
  | _ => none }
def FnExactValidFramesWrongFalsely : Prop := fnExactValidFramesRow.holds Try.pinned (OpenSpec.ofChange fnExactValidFramesWrong)

/-- 'laws.FnExactEvenFrames': WHATEVER THE INPUT: true; the input reads as it did. -/
def fnExactEvenFramesSpec : ChangeSpec := { name := "fnExactEvenFrames", fn := fun _ => fun
  | [d1, d2, d3] => { results := [.lit (.bool true)], args := [d1, d2, d3] }
  | _ => none }
def fnExactEvenFramesRow : OpenClaim := { program := "ytkjdinhbfoghnaa", sum := "acbb752d714011d5366c2de8a6381592987d2989597486303bb4a47ad5a2a495", func := "loop.example/g01063/laws.FnExactEvenFrames", spec := "fnExactEvenFrames", apart := false }
def FnExactEvenFramesSaid : Prop := fnExactEvenFramesRow.holds Try.pinned (OpenSpec.ofChange fnExactEvenFramesSpec)

/-- ITS FALSE NEIGHBOUR: 'it returns false'. Refute it at one input. -/
def fnExactEvenFramesWrong : ChangeSpec := { name := "fnExactEvenFrames", fn := fun _ => fun
  | [d1, d2, d3] => { results := [.lit (.bool false)], args := [d1, d2, d3] }
  | _ => none }
def FnExactEvenFramesWrongFalsely : Prop := fnExactEvenFramesRow.holds Try.pinned (OpenSpec.ofChange fnExactEvenFramesWrong)

/-- 'laws.FnExactTotalMillis': WHATEVER THE INPUT: true; the input reads as it did. -/
def fnExactTotalMillisSpec : ChangeSpec := { name := "fnExactTotalMillis", fn := fun _ => fun
  | [d] => { results := [.lit (.bool true)], args := [d] }
  | _ => none }
def fnExactTotalMillisRow : OpenClaim := { program := "ytkjdinhbfoghnaa", sum := "acbb752d714011d5366c2de8a6381592987d2989597486303bb4a47ad5a2a495", func := "loop.example/g01063/laws.FnExactTotalMillis", spec := "fnExactTotalMillis", unfollowed := true, recurses := true, apart := false }
def FnExactTotalMillisSaid : Prop := fnExactTotalMillisRow.holds Try.pinned (OpenSpec.ofChange fnExactTotalMillisSpec)

/-- ITS FALSE NEIGHBOUR: 'it returns false'. Refute it at one input. -/
def fnExactTotalMillisWrong : ChangeSpec := { name := "fnExactTotalMillis", fn := fun _ => fun
  | [d] => { results := [.lit (.bool false)], args := [d] }
  | _ => none }
def FnExactTotalMillisWrongFalsely : Prop := fnExactTotalMillisRow.holds Try.pinned (OpenSpec.ofChange fnExactTotalMillisWrong)

/-- 'laws.FnExactLeastPersist': WHATEVER THE INPUT: true; the input reads as it did. -/
def fnExactLeastPersistSpec : ChangeSpec := { name := "fnExactLeastPersist", fn := fun _ => fun
  | [d] => { results := [.lit (.bool true)], args := [d] }
  | _ => none }
def fnExactLeastPersistRow : OpenClaim := { program := "ytkjdinhbfoghnaa", sum := "acbb752d714011d5366c2de8a6381592987d2989597486303bb4a47ad5a2a495", func := "loop.example/g01063/laws.FnExactLeastPersist", spec := "fnExactLeastPersist", unfollowed := true, recurses := true, apart := false }
def FnExactLeastPersistSaid : Prop := fnExactLeastPersistRow.holds Try.pinned (OpenSpec.ofChange fnExactLeastPersistSpec)

/-- ITS FALSE NEIGHBOUR: 'it returns false'. Refute it at one input. -/
def fnExactLeastPersistWrong : ChangeSpec := { name := "fnExactLeastPersist", fn := fun _ => fun
  | [d] => { results := [.lit (.bool false)], args := [d] }
  | _ => none }
def FnExactLeastPersistWrongFalsely : Prop := fnExactLeastPersistRow.holds Try.pinned (OpenSpec.ofChange fnExactLeastPersistWrong)

/-- 'laws.FnExactFrameAt': WHATEVER THE INPUT: true; the input reads as it did. -/
def fnExactFrameAtSpec : ChangeSpec := { name := "fnExactFrameAt", fn := fun _ => fun
  | [d1, d2] => { results := [.lit (.bool true)], args := [d1, d2] }
  | _ => none }
def fnExactFrameAtRow : OpenClaim := { program := "ytkjdinhbfoghnaa", sum := "acbb752d714011d5366c2de8a6381592987d2989597486303bb4a47ad5a2a495", func := "loop.example/g01063/laws.FnExactFrameAt", spec := "fnExactFrameAt", unfollowed := true, recurses := true, apart := false }
def FnExactFrameAtSaid : Prop := fnExactFrameAtRow.holds Try.pinned (OpenSpec.ofChange fnExactFrameAtSpec)

/-- ITS FALSE NEIGHBOUR: 'it returns false'. Refute it at one input. -/
def fnExactFrameAtWrong : ChangeSpec := { name := "fnExactFrameAt", fn := fun _ => fun
  | [d1, d2] => { results := [.lit (.bool false)], args := [d1, d2] }
  | _ => none }
def FnExactFrameAtWrongFalsely : Prop := fnExactFrameAtRow.holds Try.pinned (OpenSpec.ofChange fnExactFrameAtWrong)

/-- 'laws.FnExactGapsSeen': WHATEVER THE INPUT: true; the input reads as it did. -/
def fnExactGapsSeenSpec : ChangeSpec := { name := "fnExactGapsSeen", fn := fun _ => fun
  | [d1, d2] => { results := [.lit (.bool true)], args := [d1, d2] }
  | _ => none }
def fnExactGapsSeenRow : OpenClaim := { program := "ytkjdinhbfoghnaa", sum := "acbb752d714011d5366c2de8a6381592987d2989597486303bb4a47ad5a2a495", func := "loop.example/g01063/laws.FnExactGapsSeen", spec := "fnExactGapsSeen", unfollowed := true, recurses := true, apart := false }
def FnExactGapsSeenSaid : Prop := fnExactGapsSeenRow.holds Try.pinned (OpenSpec.ofChange fnExactGapsSeenSpec)

/-- ITS FALSE NEIGHBOUR: 'it returns false'. Refute it at one input. -/
def fnExactGapsSeenWrong : ChangeSpec := { name := "fnExactGapsSeen", fn := fun _ => fun
  | [d1, d2] => { results := [.lit (.bool false)], args := [d1, d2] }
  | _ => none }
def FnExactGapsSeenWrongFalsely : Prop := fnExactGapsSeenRow.holds Try.pinned (OpenSpec.ofChange fnExactGapsSeenWrong)

/-- 'laws.FnExactBlurOf': WHATEVER THE INPUT: true; the input reads as it did. -/
def fnExactBlurOfSpec : ChangeSpec := { name := "fnExactBlurOf", fn := fun _ => fun
  | [d1, d2] => { results := [.lit (.bool true)], args := [d1, d2] }
  | _ => none }
def fnExactBlurOfRow : OpenClaim := { program := "ytkjdinhbfoghnaa", sum := "acbb752d714011d5366c2de8a6381592987d2989597486303bb4a47ad5a2a495", func := "loop.example/g01063/laws.FnExactBlurOf", spec := "fnExactBlurOf", unfollowed := true, recurses := true, apart := false }
def FnExactBlurOfSaid : Prop := fnExactBlurOfRow.holds Try.pinned (OpenSpec.ofChange fnExactBlurOfSpec)

/-- ITS FALSE NEIGHBOUR: 'it returns false'. Refute it at one input. -/
def fnExactBlurOfWrong : ChangeSpec := { name := "fnExactBlurOf", fn := fun _ => fun
  | [d1, d2] => { results := [.lit (.bool false)], args := [d1, d2] }
  | _ => none }
def FnExactBlurOfWrongFalsely : Prop := fnExactBlurOfRow.holds Try.pinned (OpenSpec.ofChange fnExactBlurOfWrong)

/-- 'laws.FnExactLightShare': WHATEVER THE INPUT: true; the input reads as it did. -/
def fnExactLightShareSpec : ChangeSpec := { name := "fnExactLightShare", fn := fun _ => fun
  | [d] => { results := [.lit (.bool true)], args := [d] }
  | _ => none }
def fnExactLightShareRow : OpenClaim := { program := "ytkjdinhbfoghnaa", sum := "acbb752d714011d5366c2de8a6381592987d2989597486303bb4a47ad5a2a495", func := "loop.example/g01063/laws.FnExactLightShare", spec := "fnExactLightShare", unfollowed := true, recurses := true, apart := false }
def FnExactLightShareSaid : Prop := fnExactLightShareRow.holds Try.pinned (OpenSpec.ofChange fnExactLightShareSpec)

/-- ITS FALSE NEIGHBOUR: 'it returns false'. Refute it at one input. -/
def fnExactLightShareWrong : ChangeSpec := { name := "fnExactLightShare", fn := fun _ => fun
  | [d] => { results := [.lit (.bool false)], args := [d] }
  | _ => none }
def FnExactLightShareWrongFalsely : Prop := fnExactLightShareRow.holds Try.pinned (OpenSpec.ofChange fnExactLightShareWrong)

/-- 'laws.FnExactSeenFrames': WHATEVER THE INPUT: true; the input reads as it did. -/
def fnExactSeenFramesSpec : ChangeSpec := { name := "fnExactSeenFrames", fn := fun _ => fun
  | [d1, d2, d3] => { results := [.lit (.bool true)], args := [d1, d2, d3] }
  | _ => none }
def fnExactSeenFramesRow : OpenClaim := { program := "ytkjdinhbfoghnaa", sum := "acbb752d714011d5366c2de8a6381592987d2989597486303bb4a47ad5a2a495", func := "loop.example/g01063/laws.FnExactSeenFrames", spec := "fnExactSeenFrames", unfollowed := true, recurses := true, apart := false }
def FnExactSeenFramesSaid : Prop := fnExactSeenFramesRow.holds Try.pinned (OpenSpec.ofChange fnExactSeenFramesSpec)

/-- ITS FALSE NEIGHBOUR: 'it returns false'. Refute it at one input. -/
def fnExactSeenFramesWrong : ChangeSpec := { name := "fnExactSeenFrames", fn := fun _ => fun
  | [d1, d2, d3] => { results := [.lit (.bool false)], args := [d1, d2, d3] }
  | _ => none }
def FnExactSeenFramesWrongFalsely : Prop := fnExactSeenFramesRow.holds Try.pinned (OpenSpec.ofChange fnExactSeenFramesWrong)

/- THE SECOND FORM. 'bulk': how many values and letters a reading holds, each counted each time it is reached (what is shared counts as often as it is met; a slice's spare places count too). A statement '..UptoSaid' is the law's where the arguments, and the package variables that the reading takes, are together of bulk at most 1048576: NARROWER than '..Said'. Prove '..Said' where nothing that the law and all that it calls make is longer than what came in: it says more and counts as full. Else prove '..UptoSaid'. A law counts once. -/
mutual
def uptoBulk {H : Type} : DataW H → Nat
  | .lit (.string bytes) => bytes.length + 1
  | .lit _ => 1
  | .nil => 1
  | .ptr d => uptoBulk d + 1
  | .slice elems spare => uptoBulkAll elems + uptoBulkAll spare + 1
  | .agg parts => uptoBulkAll parts + 1
  | .iface _ d => uptoBulk d + 1
  | .map entries => uptoBulkEntries entries + 1
  | .held _ => 1
def uptoBulkAll {H : Type} : List (DataW H) → Nat
  | [] => 0
  | d :: r => uptoBulk d + uptoBulkAll r
def uptoBulkEntries {H : Type} : List (Lit × DataW H) → Nat
  | [] => 0
  | x :: r => uptoBulkEntry x + uptoBulkEntries r
def uptoBulkEntry {H : Type} : Lit × DataW H → Nat
  | (.string bytes, d) => bytes.length + uptoBulk d + 1
  | (_, d) => uptoBulk d + 1
 end
def uptoSmall : (H : Type) → List (DataW H) → Bool := fun _ ds => decide (uptoBulkAll ds ≤ 1048576)
def OpenSpec.upto (s : _root_.Go.ChangeSpec) : _root_.Go.OpenSpec := { _root_.Go.OpenSpec.ofChange s with cond := some uptoSmall }

/-- 'laws.FnExactSameFrames', WHERE WHAT IT READS IS OF BULK AT MOST 1048576: true; the input reads as it did. -/
def fnExactSameFramesUptoRow : OpenClaim := { program := "ytkjdinhbfoghnaa", sum := "acbb752d714011d5366c2de8a6381592987d2989597486303bb4a47ad5a2a495", func := "loop.example/g01063/laws.FnExactSameFrames", spec := "fnExactSameFrames", apart := false, narrowed := true }
def FnExactSameFramesUptoSaid : Prop := fnExactSameFramesUptoRow.holds Try.pinned (OpenSpec.upto fnExactSameFramesSpec)

/-- 'laws.FnExactValidFrames', WHERE WHAT IT READS IS OF BULK AT MOST 1048576: true; the input reads as it did. -/
def fnExactValidFramesUptoRow : OpenClaim := { program := "ytkjdinhbfoghnaa", sum := "acbb752d714011d5366c2de8a6381592987d2989597486303bb4a47ad5a2a495", func := "loop.example/g01063/laws.FnExactValidFrames", spec := "fnExactValidFrames", unfollowed := true, recurses := true, apart := false, narrowed := true }
def FnExactValidFramesUptoSaid : Prop := fnExactValidFramesUptoRow.holds Try.pinned (OpenSpec.upto fnExactValidFramesSpec)

/-- 'laws.FnExactEvenFrames', WHERE WHAT IT READS IS OF BULK AT MOST 1048576: true; the input reads as it did. -/
def fnExactEvenFramesUptoRow : OpenClaim := { program := "ytkjdinhbfoghnaa", sum := "acbb752d714011d5366c2de8a6381592987d2989597486303bb4a47ad5a2a495", func := "loop.example/g01063/laws.FnExactEvenFrames", spec := "fnExactEvenFrames", apart := false, narrowed := true }
def FnExactEvenFramesUptoSaid : Prop := fnExactEvenFramesUptoRow.holds Try.pinned (OpenSpec.upto fnExactEvenFramesSpec)

/-- 'laws.FnExactTotalMillis', WHERE WHAT IT READS IS OF BULK AT MOST 1048576: true; the input reads as it did. -/
def fnExactTotalMillisUptoRow : OpenClaim := { program := "ytkjdinhbfoghnaa", sum := "acbb752d714011d5366c2de8a6381592987d2989597486303bb4a47ad5a2a495", func := "loop.example/g01063/laws.FnExactTotalMillis", spec := "fnExactTotalMillis", unfollowed := true, recurses := true, apart := false, narrowed := true }
def FnExactTotalMillisUptoSaid : Prop := fnExactTotalMillisUptoRow.holds Try.pinned (OpenSpec.upto fnExactTotalMillisSpec)

/-- 'laws.FnExactLeastPersist', WHERE WHAT IT READS IS OF BULK AT MOST 1048576: true; the input reads as it did. -/
def fnExactLeastPersistUptoRow : OpenClaim := { program := "ytkjdinhbfoghnaa", sum := "acbb752d714011d5366c2de8a6381592987d2989597486303bb4a47ad5a2a495", func := "loop.example/g01063/laws.FnExactLeastPersist", spec := "fnExactLeastPersist", unfollowed := true, recurses := true, apart := false, narrowed := true }
def FnExactLeastPersistUptoSaid : Prop := fnExactLeastPersistUptoRow.holds Try.pinned (OpenSpec.upto fnExactLeastPersistSpec)

/-- 'laws.FnExactFrameAt', WHERE WHAT IT READS IS OF BULK AT MOST 1048576: true; the input reads as it did. -/
def fnExactFrameAtUptoRow : OpenClaim := { program := "ytkjdinhbfoghnaa", sum := "acbb752d714011d5366c2de8a6381592987d2989597486303bb4a47ad5a2a495", func := "loop.example/g01063/laws.FnExactFrameAt", spec := "fnExactFrameAt", unfollowed := true, recurses := true, apart := false, narrowed := true }
def FnExactFrameAtUptoSaid : Prop := fnExactFrameAtUptoRow.holds Try.pinned (OpenSpec.upto fnExactFrameAtSpec)

/-- 'laws.FnExactGapsSeen', WHERE WHAT IT READS IS OF BULK AT MOST 1048576: true; the input reads as it did. -/
def fnExactGapsSeenUptoRow : OpenClaim := { program := "ytkjdinhbfoghnaa", sum := "acbb752d714011d5366c2de8a6381592987d2989597486303bb4a47ad5a2a495", func := "loop.example/g01063/laws.FnExactGapsSeen", spec := "fnExactGapsSeen", unfollowed := true, recurses := true, apart := false, narrowed := true }
def FnExactGapsSeenUptoSaid : Prop := fnExactGapsSeenUptoRow.holds Try.pinned (OpenSpec.upto fnExactGapsSeenSpec)

/-- 'laws.FnExactBlurOf', WHERE WHAT IT READS IS OF BULK AT MOST 1048576: true; the input reads as it did. -/
def fnExactBlurOfUptoRow : OpenClaim := { program := "ytkjdinhbfoghnaa", sum := "acbb752d714011d5366c2de8a6381592987d2989597486303bb4a47ad5a2a495", func := "loop.example/g01063/laws.FnExactBlurOf", spec := "fnExactBlurOf", unfollowed := true, recurses := true, apart := false, narrowed := true }
def FnExactBlurOfUptoSaid : Prop := fnExactBlurOfUptoRow.holds Try.pinned (OpenSpec.upto fnExactBlurOfSpec)

/-- 'laws.FnExactLightShare', WHERE WHAT IT READS IS OF BULK AT MOST 1048576: true; the input reads as it did. -/
def fnExactLightShareUptoRow : OpenClaim := { program := "ytkjdinhbfoghnaa", sum := "acbb752d714011d5366c2de8a6381592987d2989597486303bb4a47ad5a2a495", func := "loop.example/g01063/laws.FnExactLightShare", spec := "fnExactLightShare", unfollowed := true, recurses := true, apart := false, narrowed := true }
def FnExactLightShareUptoSaid : Prop := fnExactLightShareUptoRow.holds Try.pinned (OpenSpec.upto fnExactLightShareSpec)

/-- 'laws.FnExactSeenFrames', WHERE WHAT IT READS IS OF BULK AT MOST 1048576: true; the input reads as it did. -/
def fnExactSeenFramesUptoRow : OpenClaim := { program := "ytkjdinhbfoghnaa", sum := "acbb752d714011d5366c2de8a6381592987d2989597486303bb4a47ad5a2a495", func := "loop.example/g01063/laws.FnExactSeenFrames", spec := "fnExactSeenFrames", unfollowed := true, recurses := true, apart := false, narrowed := true }
def FnExactSeenFramesUptoSaid : Prop := fnExactSeenFramesUptoRow.holds Try.pinned (OpenSpec.upto fnExactSeenFramesSpec)

end Rows
end Go.Proofs.Ytkjdinhbfoghnaa
