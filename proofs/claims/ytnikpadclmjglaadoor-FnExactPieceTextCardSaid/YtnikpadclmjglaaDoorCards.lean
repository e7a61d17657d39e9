/-
  DERIVED. GIVEN WITH THE SEED: THE CARDS: each row of YtnikpadclmjglaaDoorRows.lean that lists a variable, with what it lists TIED to the program's text (the seventh form; the later family's looks); each row that meets fmt, with fmt's text TOLD by the authors' own Lean function (tested against real Go, not proved from fmt's source: count such statements apart). THE CARD IS WHAT COUNTS. Prove the row's statement (the work); the ties are given (YtnikpadclmjglaaDoorTie.lean); close each card by the builder's one call (the guide's Derived/Test/ToyasCard.lean, 'card_holds'). Laid BY PROGRAM, IN A SANDBOX (cutbox-door.mjs). By AI agents, Wed Nov 11 2026. No macro, syntax, notation, axiom, sorry.
-/
import Derived.Test.YtnikpadclmjglaaDoorRows
import GoSem.ClaimSeven
namespace Go.Proofs.YtnikpadclmjglaaDoor
namespace Rows

/-- THE TIED CARD OF 'laws.FnExactPieceText'. -/
def fnExactPieceTextCard : Claim7 := { stood := { row := fnExactPieceTextRow, standIns := [], harness := (true, "3b64643ebf597c32e76efc25f65b32828e9e6f96a9d9230f421d5c65ab91838d"), looks := false }, kinds := [], alts := [], laidByText := true, laidKinds := [.data, .data, .data], laidTests := true, laidLooks := .later }
def FnExactPieceTextCardSaid : Prop := Claim7.holds Tryd.pinned (.plain (OpenSpec.ofChange fnExactPieceTextSpec)) fnExactPieceTextCard

/-- THE SECOND FORM's CARD OF 'laws.FnExactPieceText'. -/
def fnExactPieceTextUptoCard : Claim7 := { stood := { row := fnExactPieceTextUptoRow, standIns := [], harness := (true, "3b64643ebf597c32e76efc25f65b32828e9e6f96a9d9230f421d5c65ab91838d"), looks := false }, kinds := [], alts := [], laidByText := true, laidKinds := [.data, .data, .data], laidTests := true, laidLooks := .later }
def FnExactPieceTextUptoCardSaid : Prop := Claim7.holds Tryd.pinned (.plain (OpenSpec.upto fnExactPieceTextSpec)) fnExactPieceTextUptoCard
end Rows
end Go.Proofs.YtnikpadclmjglaaDoor
