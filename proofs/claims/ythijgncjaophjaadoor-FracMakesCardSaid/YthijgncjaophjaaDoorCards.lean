/-
  DERIVED. GIVEN WITH THE SEED: THE CARDS: each row of YthijgncjaophjaaDoorRows.lean that lists a variable, with what it lists TIED to the program's text (the seventh form; the later family's looks); each row that meets fmt, with fmt's text TOLD by the authors' own Lean function (tested against real Go, not proved from fmt's source: count such statements apart). THE CARD IS WHAT COUNTS. Prove the row's statement (the work); the ties are given (YthijgncjaophjaaDoorTie.lean); close each card by the builder's one call (the guide's Derived/Test/ToyasCard.lean, 'card_holds'). Laid BY PROGRAM, IN A SANDBOX (cutbox-door.mjs). By AI agents, Wed Nov 11 2026. No macro, syntax, notation, axiom, sorry.
-/
import Derived.Test.YthijgncjaophjaaDoorRows
import GoSem.ClaimSeven
namespace Go.Proofs.YthijgncjaophjaaDoor
namespace Rows

/-- THE TIED CARD OF 'leadlightlaw1.DocOne'. -/
def docOneCard : Claim7 := { stood := { row := docOneRow, standIns := [], harness := (true, "26d017f5bc3bd218007da0fabfa08573c9ba9353208853ce2b2bfd06a12b5d25"), looks := true }, kinds := [], alts := [], laidByText := true, laidKinds := [.sentinel, .sentinel, .sentinel, .sentinel, .sentinel, .sentinel, .sentinel, .sentinel, .sentinel], laidTests := true, laidLooks := .later }
def DocOneCardSaid : Prop := Claim7.holds Tryd.pinned (.plain (OpenSpec.ofChange docOneSpec)) docOneCard

/-- THE TIED CARD OF 'leadlightlaw2.PaintReaches'. -/
def paintReachesCard : Claim7 := { stood := { row := paintReachesRow, standIns := [], harness := (true, "26d017f5bc3bd218007da0fabfa08573c9ba9353208853ce2b2bfd06a12b5d25"), looks := true }, kinds := [], alts := [], laidByText := true, laidKinds := [.handle, .sentinel, .sentinel, .sentinel, .sentinel], laidTests := true, laidLooks := .later }
def PaintReachesCardSaid : Prop := Claim7.holds Tryd.pinned (.plain (OpenSpec.ofChange paintReachesSpec)) paintReachesCard

/-- THE TIED CARD OF 'leadlightlaw1.DocNew'. -/
def docNewCard : Claim7 := { stood := { row := docNewRow, standIns := [], harness := (true, "26d017f5bc3bd218007da0fabfa08573c9ba9353208853ce2b2bfd06a12b5d25"), looks := true }, kinds := [], alts := [], laidByText := true, laidKinds := [.handle, .sentinel, .sentinel, .sentinel, .sentinel, .sentinel, .sentinel, .sentinel, .sentinel, .sentinel, .sentinel, .sentinel], laidTests := true, laidLooks := .later }
def DocNewCardSaid : Prop := Claim7.holds Tryd.pinned (.plain (OpenSpec.ofChange docNewSpec)) docNewCard

/-- THE TIED CARD OF 'leadlightlaw2.PaintCells'. -/
def paintCellsCard : Claim7 := { stood := { row := paintCellsRow, standIns := [], harness := (true, "26d017f5bc3bd218007da0fabfa08573c9ba9353208853ce2b2bfd06a12b5d25"), looks := true }, kinds := [], alts := [], laidByText := true, laidKinds := [.handle, .sentinel, .sentinel, .sentinel, .sentinel, .sentinel, .sentinel, .sentinel, .sentinel, .sentinel, .sentinel, .sentinel], laidTests := true, laidLooks := .later }
def PaintCellsCardSaid : Prop := Claim7.holds Tryd.pinned (.plain (OpenSpec.ofChange paintCellsSpec)) paintCellsCard

/-- THE TIED CARD OF 'leadlightlaw2.PaintCounts'. -/
def paintCountsCard : Claim7 := { stood := { row := paintCountsRow, standIns := [], harness := (true, "26d017f5bc3bd218007da0fabfa08573c9ba9353208853ce2b2bfd06a12b5d25"), looks := true }, kinds := [], alts := [], laidByText := true, laidKinds := [.handle, .sentinel, .sentinel, .sentinel, .sentinel], laidTests := true, laidLooks := .later }
def PaintCountsCardSaid : Prop := Claim7.holds Tryd.pinned (.plain (OpenSpec.ofChange paintCountsSpec)) paintCountsCard

/-- THE TIED CARD OF 'leadlightlaw1.FracMakes'. -/
def fracMakesCard : Claim7 := { stood := { row := fracMakesRow, standIns := [], harness := (true, "26d017f5bc3bd218007da0fabfa08573c9ba9353208853ce2b2bfd06a12b5d25"), looks := true }, kinds := [], alts := [], laidByText := true, laidKinds := [.data, .data, .data, .handle, .sentinel, .sentinel, .sentinel, .sentinel, .sentinel, .sentinel, .sentinel, .sentinel, .sentinel, .sentinel, .sentinel, .sentinel, .sentinel], laidTests := true, laidLooks := .later }
def FracMakesCardSaid : Prop := Claim7.holds Tryd.pinned (.plain (OpenSpec.ofChange fracMakesSpec)) fracMakesCard

/-- THE TIED CARD OF 'leadlightlaw1.MoveThens'. -/
def moveThensCard : Claim7 := { stood := { row := moveThensRow, standIns := [], harness := (true, "26d017f5bc3bd218007da0fabfa08573c9ba9353208853ce2b2bfd06a12b5d25"), looks := true }, kinds := [], alts := [], laidByText := true, laidKinds := [.data, .data, .data, .data, .sentinel, .sentinel, .sentinel, .sentinel, .sentinel, .pinned], laidTests := true, laidLooks := .later }
def MoveThensCardSaid : Prop := Claim7.holds Tryd.pinned (.plain (OpenSpec.ofChange moveThensSpec)) moveThensCard

/-- THE TIED CARD OF 'leadlightlaw1.MoveTurns'. -/
def moveTurnsCard : Claim7 := { stood := { row := moveTurnsRow, standIns := [], harness := (true, "26d017f5bc3bd218007da0fabfa08573c9ba9353208853ce2b2bfd06a12b5d25"), looks := true }, kinds := [], alts := [], laidByText := true, laidKinds := [.data, .data, .data, .data, .sentinel, .sentinel, .sentinel, .sentinel, .sentinel, .pinned], laidTests := true, laidLooks := .later }
def MoveTurnsCardSaid : Prop := Claim7.holds Tryd.pinned (.plain (OpenSpec.ofChange moveTurnsSpec)) moveTurnsCard

/-- THE SECOND FORM's CARD OF 'leadlightlaw1.DocOne'. -/
def docOneUptoCard : Claim7 := { stood := { row := docOneUptoRow, standIns := [], harness := (true, "26d017f5bc3bd218007da0fabfa08573c9ba9353208853ce2b2bfd06a12b5d25"), looks := true }, kinds := [], alts := [], laidByText := true, laidKinds := [.sentinel, .sentinel, .sentinel, .sentinel, .sentinel, .sentinel, .sentinel, .sentinel, .sentinel], laidTests := true, laidLooks := .later }
def DocOneUptoCardSaid : Prop := Claim7.holds Tryd.pinned (.plain (OpenSpec.upto docOneSpec)) docOneUptoCard

/-- THE SECOND FORM's CARD OF 'leadlightlaw2.PaintReaches'. -/
def paintReachesUptoCard : Claim7 := { stood := { row := paintReachesUptoRow, standIns := [], harness := (true, "26d017f5bc3bd218007da0fabfa08573c9ba9353208853ce2b2bfd06a12b5d25"), looks := true }, kinds := [], alts := [], laidByText := true, laidKinds := [.handle, .sentinel, .sentinel, .sentinel, .sentinel], laidTests := true, laidLooks := .later }
def PaintReachesUptoCardSaid : Prop := Claim7.holds Tryd.pinned (.plain (OpenSpec.upto paintReachesSpec)) paintReachesUptoCard

/-- THE SECOND FORM's CARD OF 'leadlightlaw1.DocNew'. -/
def docNewUptoCard : Claim7 := { stood := { row := docNewUptoRow, standIns := [], harness := (true, "26d017f5bc3bd218007da0fabfa08573c9ba9353208853ce2b2bfd06a12b5d25"), looks := true }, kinds := [], alts := [], laidByText := true, laidKinds := [.handle, .sentinel, .sentinel, .sentinel, .sentinel, .sentinel, .sentinel, .sentinel, .sentinel, .sentinel, .sentinel, .sentinel], laidTests := true, laidLooks := .later }
def DocNewUptoCardSaid : Prop := Claim7.holds Tryd.pinned (.plain (OpenSpec.upto docNewSpec)) docNewUptoCard

/-- THE SECOND FORM's CARD OF 'leadlightlaw2.PaintCells'. -/
def paintCellsUptoCard : Claim7 := { stood := { row := paintCellsUptoRow, standIns := [], harness := (true, "26d017f5bc3bd218007da0fabfa08573c9ba9353208853ce2b2bfd06a12b5d25"), looks := true }, kinds := [], alts := [], laidByText := true, laidKinds := [.handle, .sentinel, .sentinel, .sentinel, .sentinel, .sentinel, .sentinel, .sentinel, .sentinel, .sentinel, .sentinel, .sentinel], laidTests := true, laidLooks := .later }
def PaintCellsUptoCardSaid : Prop := Claim7.holds Tryd.pinned (.plain (OpenSpec.upto paintCellsSpec)) paintCellsUptoCard

/-- THE SECOND FORM's CARD OF 'leadlightlaw2.PaintCounts'. -/
def paintCountsUptoCard : Claim7 := { stood := { row := paintCountsUptoRow, standIns := [], harness := (true, "26d017f5bc3bd218007da0fabfa08573c9ba9353208853ce2b2bfd06a12b5d25"), looks := true }, kinds := [], alts := [], laidByText := true, laidKinds := [.handle, .sentinel, .sentinel, .sentinel, .sentinel], laidTests := true, laidLooks := .later }
def PaintCountsUptoCardSaid : Prop := Claim7.holds Tryd.pinned (.plain (OpenSpec.upto paintCountsSpec)) paintCountsUptoCard

/-- THE SECOND FORM's CARD OF 'leadlightlaw1.FracMakes'. -/
def fracMakesUptoCard : Claim7 := { stood := { row := fracMakesUptoRow, standIns := [], harness := (true, "26d017f5bc3bd218007da0fabfa08573c9ba9353208853ce2b2bfd06a12b5d25"), looks := true }, kinds := [], alts := [], laidByText := true, laidKinds := [.data, .data, .data, .handle, .sentinel, .sentinel, .sentinel, .sentinel, .sentinel, .sentinel, .sentinel, .sentinel, .sentinel, .sentinel, .sentinel, .sentinel, .sentinel], laidTests := true, laidLooks := .later }
def FracMakesUptoCardSaid : Prop := Claim7.holds Tryd.pinned (.plain (OpenSpec.upto fracMakesSpec)) fracMakesUptoCard

/-- THE SECOND FORM's CARD OF 'leadlightlaw1.MoveThens'. -/
def moveThensUptoCard : Claim7 := { stood := { row := moveThensUptoRow, standIns := [], harness := (true, "26d017f5bc3bd218007da0fabfa08573c9ba9353208853ce2b2bfd06a12b5d25"), looks := true }, kinds := [], alts := [], laidByText := true, laidKinds := [.data, .data, .data, .data, .sentinel, .sentinel, .sentinel, .sentinel, .sentinel, .pinned], laidTests := true, laidLooks := .later }
def MoveThensUptoCardSaid : Prop := Claim7.holds Tryd.pinned (.plain (OpenSpec.upto moveThensSpec)) moveThensUptoCard

/-- THE SECOND FORM's CARD OF 'leadlightlaw1.MoveTurns'. -/
def moveTurnsUptoCard : Claim7 := { stood := { row := moveTurnsUptoRow, standIns := [], harness := (true, "26d017f5bc3bd218007da0fabfa08573c9ba9353208853ce2b2bfd06a12b5d25"), looks := true }, kinds := [], alts := [], laidByText := true, laidKinds := [.data, .data, .data, .data, .sentinel, .sentinel, .sentinel, .sentinel, .sentinel, .pinned], laidTests := true, laidLooks := .later }
def MoveTurnsUptoCardSaid : Prop := Claim7.holds Tryd.pinned (.plain (OpenSpec.upto moveTurnsSpec)) moveTurnsUptoCard
end Rows
end Go.Proofs.YthijgncjaophjaaDoor
