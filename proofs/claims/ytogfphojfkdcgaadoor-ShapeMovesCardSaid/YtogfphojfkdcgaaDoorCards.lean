/-
  DERIVED. GIVEN WITH THE SEED: THE CARDS: each row of YtogfphojfkdcgaaDoorRows.lean that lists a variable, with what it lists TIED to the program's text (the seventh form; the later family's looks); each row that meets fmt, with fmt's text TOLD by the authors' own Lean function (tested against real Go, not proved from fmt's source: count such statements apart). THE CARD IS WHAT COUNTS. Prove the row's statement (the work); the ties are given (YtogfphojfkdcgaaDoorTie.lean); close each card by the builder's one call (the guide's Derived/Test/ToyasCard.lean, 'card_holds'). Laid BY PROGRAM, IN A SANDBOX (cutbox-door.mjs). By AI agents, Wed Nov 11 2026. No macro, syntax, notation, axiom, sorry.
-/
import Derived.Test.YtogfphojfkdcgaaDoorRows
import GoSem.ClaimSeven
namespace Go.Proofs.YtogfphojfkdcgaaDoor
namespace Rows

/-- THE TIED CARD OF 'leadlightlaw2.ShapeMoves'. -/
def shapeMovesCard : Claim7 := { stood := { row := shapeMovesRow, standIns := [], harness := (true, "cfe9b0be23d3e3263ab9564c262295d9bd6476379428aab877b960c4ba9b1824"), looks := true }, kinds := [], alts := [], laidByText := true, laidKinds := [.sentinel, .sentinel, .sentinel, .sentinel], laidTests := true, laidLooks := .later }
def ShapeMovesCardSaid : Prop := Claim7.holds Tryd.pinned (.plain (OpenSpec.ofChange shapeMovesSpec)) shapeMovesCard

/-- THE TIED CARD OF 'leadlightlaw1.MoveThens'. -/
def moveThensCard : Claim7 := { stood := { row := moveThensRow, standIns := [], harness := (true, "cfe9b0be23d3e3263ab9564c262295d9bd6476379428aab877b960c4ba9b1824"), looks := true }, kinds := [], alts := [], laidByText := true, laidKinds := [.data, .data, .data, .data, .sentinel, .sentinel, .sentinel, .sentinel, .sentinel, .pinned], laidTests := true, laidLooks := .later }
def MoveThensCardSaid : Prop := Claim7.holds Tryd.pinned (.plain (OpenSpec.ofChange moveThensSpec)) moveThensCard

/-- THE TIED CARD OF 'leadlightlaw1.MoveTurns'. -/
def moveTurnsCard : Claim7 := { stood := { row := moveTurnsRow, standIns := [], harness := (true, "cfe9b0be23d3e3263ab9564c262295d9bd6476379428aab877b960c4ba9b1824"), looks := true }, kinds := [], alts := [], laidByText := true, laidKinds := [.data, .data, .data, .data, .sentinel, .sentinel, .sentinel, .sentinel, .sentinel, .pinned], laidTests := true, laidLooks := .later }
def MoveTurnsCardSaid : Prop := Claim7.holds Tryd.pinned (.plain (OpenSpec.ofChange moveTurnsSpec)) moveTurnsCard

/-- THE SECOND FORM's CARD OF 'leadlightlaw2.ShapeMoves'. -/
def shapeMovesUptoCard : Claim7 := { stood := { row := shapeMovesUptoRow, standIns := [], harness := (true, "cfe9b0be23d3e3263ab9564c262295d9bd6476379428aab877b960c4ba9b1824"), looks := true }, kinds := [], alts := [], laidByText := true, laidKinds := [.sentinel, .sentinel, .sentinel, .sentinel], laidTests := true, laidLooks := .later }
def ShapeMovesUptoCardSaid : Prop := Claim7.holds Tryd.pinned (.plain (OpenSpec.upto shapeMovesSpec)) shapeMovesUptoCard

/-- THE SECOND FORM's CARD OF 'leadlightlaw1.MoveThens'. -/
def moveThensUptoCard : Claim7 := { stood := { row := moveThensUptoRow, standIns := [], harness := (true, "cfe9b0be23d3e3263ab9564c262295d9bd6476379428aab877b960c4ba9b1824"), looks := true }, kinds := [], alts := [], laidByText := true, laidKinds := [.data, .data, .data, .data, .sentinel, .sentinel, .sentinel, .sentinel, .sentinel, .pinned], laidTests := true, laidLooks := .later }
def MoveThensUptoCardSaid : Prop := Claim7.holds Tryd.pinned (.plain (OpenSpec.upto moveThensSpec)) moveThensUptoCard

/-- THE SECOND FORM's CARD OF 'leadlightlaw1.MoveTurns'. -/
def moveTurnsUptoCard : Claim7 := { stood := { row := moveTurnsUptoRow, standIns := [], harness := (true, "cfe9b0be23d3e3263ab9564c262295d9bd6476379428aab877b960c4ba9b1824"), looks := true }, kinds := [], alts := [], laidByText := true, laidKinds := [.data, .data, .data, .data, .sentinel, .sentinel, .sentinel, .sentinel, .sentinel, .pinned], laidTests := true, laidLooks := .later }
def MoveTurnsUptoCardSaid : Prop := Claim7.holds Tryd.pinned (.plain (OpenSpec.upto moveTurnsSpec)) moveTurnsUptoCard
end Rows
end Go.Proofs.YtogfphojfkdcgaaDoor
