/-
  DERIVED. GIVEN WITH THE SEED: THE CARDS: each row of YtaidgecpglikpaaDoorRows.lean that lists a variable, with what it lists TIED to the program's text (the seventh form; the later family's looks); each row that meets fmt, with fmt's text TOLD by the authors' own Lean function (tested against real Go, not proved from fmt's source: count such statements apart). THE CARD IS WHAT COUNTS. Prove the row's statement (the work); the ties are given (YtaidgecpglikpaaDoorTie.lean); close each card by the builder's one call (the guide's Derived/Test/ToyasCard.lean, 'card_holds'). Laid BY PROGRAM, IN A SANDBOX (cutbox-door.mjs). By AI agents, Wed Nov 11 2026. No macro, syntax, notation, axiom, sorry.
-/
import Derived.Test.YtaidgecpglikpaaDoorRows
import GoSem.ClaimSeven
namespace Go.Proofs.YtaidgecpglikpaaDoor
namespace Rows

/-- THE TIED CARD OF 'leadlightlaw2.PaintCells'. -/
def paintCellsCard : Claim7 := { stood := { row := paintCellsRow, standIns := [], harness := (true, "25a95cf0621bcb2ee7e207de179626acd26098b53692764fdc93a70651c91bc9"), looks := true }, kinds := [], alts := [], laidByText := true, laidKinds := [.handle, .sentinel, .sentinel, .sentinel, .sentinel, .sentinel, .sentinel, .sentinel, .sentinel, .sentinel, .sentinel, .sentinel], laidTests := true, laidLooks := .later }
def PaintCellsCardSaid : Prop := Claim7.holds Tryd.pinned (.plain (OpenSpec.ofChange paintCellsSpec)) paintCellsCard

/-- THE TIED CARD OF 'leadlightlaw2.PaintCounts'. -/
def paintCountsCard : Claim7 := { stood := { row := paintCountsRow, standIns := [], harness := (true, "25a95cf0621bcb2ee7e207de179626acd26098b53692764fdc93a70651c91bc9"), looks := true }, kinds := [], alts := [], laidByText := true, laidKinds := [.handle, .sentinel, .sentinel, .sentinel, .sentinel], laidTests := true, laidLooks := .later }
def PaintCountsCardSaid : Prop := Claim7.holds Tryd.pinned (.plain (OpenSpec.ofChange paintCountsSpec)) paintCountsCard

/-- THE SECOND FORM's CARD OF 'leadlightlaw2.PaintCells'. -/
def paintCellsUptoCard : Claim7 := { stood := { row := paintCellsUptoRow, standIns := [], harness := (true, "25a95cf0621bcb2ee7e207de179626acd26098b53692764fdc93a70651c91bc9"), looks := true }, kinds := [], alts := [], laidByText := true, laidKinds := [.handle, .sentinel, .sentinel, .sentinel, .sentinel, .sentinel, .sentinel, .sentinel, .sentinel, .sentinel, .sentinel, .sentinel], laidTests := true, laidLooks := .later }
def PaintCellsUptoCardSaid : Prop := Claim7.holds Tryd.pinned (.plain (OpenSpec.upto paintCellsSpec)) paintCellsUptoCard

/-- THE SECOND FORM's CARD OF 'leadlightlaw2.PaintCounts'. -/
def paintCountsUptoCard : Claim7 := { stood := { row := paintCountsUptoRow, standIns := [], harness := (true, "25a95cf0621bcb2ee7e207de179626acd26098b53692764fdc93a70651c91bc9"), looks := true }, kinds := [], alts := [], laidByText := true, laidKinds := [.handle, .sentinel, .sentinel, .sentinel, .sentinel], laidTests := true, laidLooks := .later }
def PaintCountsUptoCardSaid : Prop := Claim7.holds Tryd.pinned (.plain (OpenSpec.upto paintCountsSpec)) paintCountsUptoCard
end Rows
end Go.Proofs.YtaidgecpglikpaaDoor
