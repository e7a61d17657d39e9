/-
  DERIVED. GIVEN WITH THE SEED: THE CARDS: each row of YthplfodfilefjaaDoorRows.lean that lists a variable, with what it lists TIED to the program's text (the seventh form; the later family's looks); each row that meets fmt, with fmt's text TOLD by the authors' own Lean function (tested against real Go, not proved from fmt's source: count such statements apart). THE CARD IS WHAT COUNTS. Prove the row's statement (the work); the ties are given (YthplfodfilefjaaDoorTie.lean); close each card by the builder's one call (the guide's Derived/Test/ToyasCard.lean, 'card_holds'). Laid BY PROGRAM, IN A SANDBOX (cutbox-door.mjs). By AI agents, Wed Nov 11 2026. No macro, syntax, notation, axiom, sorry.
-/
import Derived.Test.YthplfodfilefjaaDoorRows
import GoSem.ClaimSeven
namespace Go.Proofs.YthplfodfilefjaaDoor
namespace Rows

/-- THE TIED CARD OF 'laws.FnExactScriptText'. -/
def fnExactScriptTextCard : Claim7 := { stood := { row := fnExactScriptTextRow, standIns := [], harness := (true, "fabd539e4fb35578e2853d8a579fa4b5da621f931d1f201d45acae947d5b05cd"), looks := false }, kinds := [], alts := [], laidByText := true, laidKinds := [.data, .data, .data], laidTests := true, laidLooks := .later }
def FnExactScriptTextCardSaid : Prop := Claim7.holds Tryd.pinned (.plain (OpenSpec.ofChange fnExactScriptTextSpec)) fnExactScriptTextCard

/-- THE TIED CARD OF 'laws.FnExactRemarkText'. -/
def fnExactRemarkTextCard : Claim7 := { stood := { row := fnExactRemarkTextRow, standIns := [], harness := (true, "fabd539e4fb35578e2853d8a579fa4b5da621f931d1f201d45acae947d5b05cd"), looks := false }, kinds := [], alts := [], laidByText := true, laidKinds := [.data, .data, .data, .data], laidTests := true, laidLooks := .later }
def FnExactRemarkTextCardSaid : Prop := Claim7.holds Tryd.pinned (.plain (OpenSpec.ofChange fnExactRemarkTextSpec)) fnExactRemarkTextCard

/-- THE TIED CARD OF 'laws.FnExactPieceText'. -/
def fnExactPieceTextCard : Claim7 := { stood := { row := fnExactPieceTextRow, standIns := [], harness := (true, "fabd539e4fb35578e2853d8a579fa4b5da621f931d1f201d45acae947d5b05cd"), looks := false }, kinds := [], alts := [], laidByText := true, laidKinds := [.data, .data, .data], laidTests := true, laidLooks := .later }
def FnExactPieceTextCardSaid : Prop := Claim7.holds Tryd.pinned (.plain (OpenSpec.ofChange fnExactPieceTextSpec)) fnExactPieceTextCard

/-- THE SECOND FORM's CARD OF 'laws.FnExactScriptText'. -/
def fnExactScriptTextUptoCard : Claim7 := { stood := { row := fnExactScriptTextUptoRow, standIns := [], harness := (true, "fabd539e4fb35578e2853d8a579fa4b5da621f931d1f201d45acae947d5b05cd"), looks := false }, kinds := [], alts := [], laidByText := true, laidKinds := [.data, .data, .data], laidTests := true, laidLooks := .later }
def FnExactScriptTextUptoCardSaid : Prop := Claim7.holds Tryd.pinned (.plain (OpenSpec.upto fnExactScriptTextSpec)) fnExactScriptTextUptoCard

/-- THE SECOND FORM's CARD OF 'laws.FnExactRemarkText'. -/
def fnExactRemarkTextUptoCard : Claim7 := { stood := { row := fnExactRemarkTextUptoRow, standIns := [], harness := (true, "fabd539e4fb35578e2853d8a579fa4b5da621f931d1f201d45acae947d5b05cd"), looks := false }, kinds := [], alts := [], laidByText := true, laidKinds := [.data, .data, .data, .data], laidTests := true, laidLooks := .later }
def FnExactRemarkTextUptoCardSaid : Prop := Claim7.holds Tryd.pinned (.plain (OpenSpec.upto fnExactRemarkTextSpec)) fnExactRemarkTextUptoCard

/-- THE SECOND FORM's CARD OF 'laws.FnExactPieceText'. -/
def fnExactPieceTextUptoCard : Claim7 := { stood := { row := fnExactPieceTextUptoRow, standIns := [], harness := (true, "fabd539e4fb35578e2853d8a579fa4b5da621f931d1f201d45acae947d5b05cd"), looks := false }, kinds := [], alts := [], laidByText := true, laidKinds := [.data, .data, .data], laidTests := true, laidLooks := .later }
def FnExactPieceTextUptoCardSaid : Prop := Claim7.holds Tryd.pinned (.plain (OpenSpec.upto fnExactPieceTextSpec)) fnExactPieceTextUptoCard
end Rows
end Go.Proofs.YthplfodfilefjaaDoor
