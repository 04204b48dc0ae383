/-
  DERIVED. GIVEN WITH THE SEED: THE CARDS: each row of YtndlmmpheecleaaGreatDoorRows.lean that lists a variable, with what it lists TIED to the program's text (the seventh form; the later family's looks); each row that meets fmt, with fmt's text TOLD by the authors' own Lean function (tested against real Go, not proved from fmt's source: count such statements apart). THE CARD IS WHAT COUNTS. Prove the row's statement (the work); the ties are given (YtndlmmpheecleaaGreatDoorTie.lean); close each card by the builder's one call (the guide's Derived/Test/ToyasCard.lean, 'card_holds'). Laid BY PROGRAM, IN A SANDBOX (cutbox-door.mjs). By AI agents, Wed Nov 11 2026. No macro, syntax, notation, axiom, sorry.
-/
import Derived.Test.YtndlmmpheecleaaGreatDoorRows
import GoSem.ClaimSeven
namespace Go.Proofs.YtndlmmpheecleaaGreatDoor
namespace Rows

/-- THE TIED CARD OF 'leadlightlaw1.DocActs'. -/
def docActsCard : Claim7 := { stood := { row := docActsRow, standIns := [], harness := (true, "eed4a8b757cb439bb37ad9b52447b7d926ad7feff84fab352987a60dd51e6fa8"), looks := true }, kinds := [], alts := [], laidByText := true, laidKinds := [.handle, .sentinel, .sentinel, .sentinel, .sentinel, .sentinel, .sentinel, .sentinel, .sentinel, .sentinel, .sentinel, .sentinel], laidTests := true, laidLooks := .later }
def DocActsCardSaid : Prop := Claim7.holds Tryz.pinned (.plain (OpenSpec.ofChange docActsSpec)) docActsCard

/-- THE TIED CARD OF 'leadlightlaw2.ShapeMakes'. -/
def shapeMakesCard : Claim7 := { stood := { row := shapeMakesRow, standIns := [], harness := (true, "eed4a8b757cb439bb37ad9b52447b7d926ad7feff84fab352987a60dd51e6fa8"), looks := true }, kinds := [], alts := [], laidByText := true, laidKinds := [.data, .data, .data, .data, .handle, .sentinel, .sentinel, .sentinel, .sentinel, .sentinel, .sentinel, .sentinel, .sentinel, .sentinel, .sentinel, .sentinel, .sentinel, .sentinel, .pinned], laidTests := true, laidLooks := .later }
def ShapeMakesCardSaid : Prop := Claim7.holds Tryz.pinned (.plain (OpenSpec.ofChange shapeMakesSpec)) shapeMakesCard

/-- THE SECOND FORM's CARD OF 'leadlightlaw1.DocActs'. -/
def docActsUptoCard : Claim7 := { stood := { row := docActsUptoRow, standIns := [], harness := (true, "eed4a8b757cb439bb37ad9b52447b7d926ad7feff84fab352987a60dd51e6fa8"), looks := true }, kinds := [], alts := [], laidByText := true, laidKinds := [.handle, .sentinel, .sentinel, .sentinel, .sentinel, .sentinel, .sentinel, .sentinel, .sentinel, .sentinel, .sentinel, .sentinel], laidTests := true, laidLooks := .later }
def DocActsUptoCardSaid : Prop := Claim7.holds Tryz.pinned (.plain (OpenSpec.upto docActsSpec)) docActsUptoCard

/-- THE SECOND FORM's CARD OF 'leadlightlaw2.ShapeMakes'. -/
def shapeMakesUptoCard : Claim7 := { stood := { row := shapeMakesUptoRow, standIns := [], harness := (true, "eed4a8b757cb439bb37ad9b52447b7d926ad7feff84fab352987a60dd51e6fa8"), looks := true }, kinds := [], alts := [], laidByText := true, laidKinds := [.data, .data, .data, .data, .handle, .sentinel, .sentinel, .sentinel, .sentinel, .sentinel, .sentinel, .sentinel, .sentinel, .sentinel, .sentinel, .sentinel, .sentinel, .sentinel, .pinned], laidTests := true, laidLooks := .later }
def ShapeMakesUptoCardSaid : Prop := Claim7.holds Tryz.pinned (.plain (OpenSpec.upto shapeMakesSpec)) shapeMakesUptoCard
end Rows
end Go.Proofs.YtndlmmpheecleaaGreatDoor
