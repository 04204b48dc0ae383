/-
  DERIVED. GIVEN WITH THE SEED: THE CARDS: each row of YtlhadgnpkooiaaaDoorRows.lean that lists a variable, with what it lists TIED to the program's text (the seventh form; the later family's looks); each row that meets fmt, with fmt's text TOLD by the authors' own Lean function (tested against real Go, not proved from fmt's source: count such statements apart). THE CARD IS WHAT COUNTS. Prove the row's statement (the work); the ties are given (YtlhadgnpkooiaaaDoorTie.lean); close each card by the builder's one call (the guide's Derived/Test/ToyasCard.lean, 'card_holds'). Laid BY PROGRAM, IN A SANDBOX (cutbox-door.mjs). By AI agents, Wed Nov 11 2026. No macro, syntax, notation, axiom, sorry.
-/
import Derived.Test.YtlhadgnpkooiaaaDoorRows
import GoSem.ClaimSeven
namespace Go.Proofs.YtlhadgnpkooiaaaDoor
namespace Rows

/-- THE TIED CARD OF 'leadlightlaw2.PaintReaches'. -/
def paintReachesCard : Claim7 := { stood := { row := paintReachesRow, standIns := [], harness := (true, "1720df0d9b837aef79aade799ccab9f44711dd9c489137537324533095d202cb"), looks := true }, kinds := [], alts := [], laidByText := true, laidKinds := [.handle, .sentinel, .sentinel, .sentinel, .sentinel], laidTests := true, laidLooks := .later }
def PaintReachesCardSaid : Prop := Claim7.holds Tryd.pinned (.plain (OpenSpec.ofChange paintReachesSpec)) paintReachesCard

/-- THE TIED CARD OF 'leadlightlaw2.PaintCells'. -/
def paintCellsCard : Claim7 := { stood := { row := paintCellsRow, standIns := [], harness := (true, "1720df0d9b837aef79aade799ccab9f44711dd9c489137537324533095d202cb"), looks := true }, kinds := [], alts := [], laidByText := true, laidKinds := [.handle, .sentinel, .sentinel, .sentinel, .sentinel, .sentinel, .sentinel, .sentinel, .sentinel, .sentinel, .sentinel, .sentinel], laidTests := true, laidLooks := .later }
def PaintCellsCardSaid : Prop := Claim7.holds Tryd.pinned (.plain (OpenSpec.ofChange paintCellsSpec)) paintCellsCard

/-- THE TIED CARD OF 'leadlightlaw2.PaintCounts'. -/
def paintCountsCard : Claim7 := { stood := { row := paintCountsRow, standIns := [], harness := (true, "1720df0d9b837aef79aade799ccab9f44711dd9c489137537324533095d202cb"), looks := true }, kinds := [], alts := [], laidByText := true, laidKinds := [.handle, .sentinel, .sentinel, .sentinel, .sentinel], laidTests := true, laidLooks := .later }
def PaintCountsCardSaid : Prop := Claim7.holds Tryd.pinned (.plain (OpenSpec.ofChange paintCountsSpec)) paintCountsCard

/-- THE SECOND FORM's CARD OF 'leadlightlaw2.PaintReaches'. -/
def paintReachesUptoCard : Claim7 := { stood := { row := paintReachesUptoRow, standIns := [], harness := (true, "1720df0d9b837aef79aade799ccab9f44711dd9c489137537324533095d202cb"), looks := true }, kinds := [], alts := [], laidByText := true, laidKinds := [.handle, .sentinel, .sentinel, .sentinel, .sentinel], laidTests := true, laidLooks := .later }
def PaintReachesUptoCardSaid : Prop := Claim7.holds Tryd.pinned (.plain (OpenSpec.upto paintReachesSpec)) paintReachesUptoCard

/-- THE SECOND FORM's CARD OF 'leadlightlaw2.PaintCells'. -/
def paintCellsUptoCard : Claim7 := { stood := { row := paintCellsUptoRow, standIns := [], harness := (true, "1720df0d9b837aef79aade799ccab9f44711dd9c489137537324533095d202cb"), looks := true }, kinds := [], alts := [], laidByText := true, laidKinds := [.handle, .sentinel, .sentinel, .sentinel, .sentinel, .sentinel, .sentinel, .sentinel, .sentinel, .sentinel, .sentinel, .sentinel], laidTests := true, laidLooks := .later }
def PaintCellsUptoCardSaid : Prop := Claim7.holds Tryd.pinned (.plain (OpenSpec.upto paintCellsSpec)) paintCellsUptoCard

/-- THE SECOND FORM's CARD OF 'leadlightlaw2.PaintCounts'. -/
def paintCountsUptoCard : Claim7 := { stood := { row := paintCountsUptoRow, standIns := [], harness := (true, "1720df0d9b837aef79aade799ccab9f44711dd9c489137537324533095d202cb"), looks := true }, kinds := [], alts := [], laidByText := true, laidKinds := [.handle, .sentinel, .sentinel, .sentinel, .sentinel], laidTests := true, laidLooks := .later }
def PaintCountsUptoCardSaid : Prop := Claim7.holds Tryd.pinned (.plain (OpenSpec.upto paintCountsSpec)) paintCountsUptoCard
end Rows
end Go.Proofs.YtlhadgnpkooiaaaDoor
