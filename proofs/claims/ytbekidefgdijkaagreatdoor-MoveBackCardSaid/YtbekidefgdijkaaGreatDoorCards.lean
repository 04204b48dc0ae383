/-
  DERIVED. GIVEN WITH THE SEED: THE CARDS: each row of YtbekidefgdijkaaGreatDoorRows.lean that lists a variable, with what it lists TIED to the program's text (the seventh form; the later family's looks); each row that meets fmt, with fmt's text TOLD by the authors' own Lean function (tested against real Go, not proved from fmt's source: count such statements apart). THE CARD IS WHAT COUNTS. Prove the row's statement (the work); the ties are given (YtbekidefgdijkaaGreatDoorTie.lean); close each card by the builder's one call (the guide's Derived/Test/ToyasCard.lean, 'card_holds'). Laid BY PROGRAM, IN A SANDBOX (cutbox-door.mjs). By AI agents, Wed Nov 11 2026. No macro, syntax, notation, axiom, sorry.
-/
import Derived.Test.YtbekidefgdijkaaGreatDoorRows
import GoSem.ClaimSeven
namespace Go.Proofs.YtbekidefgdijkaaGreatDoor
namespace Rows

/-- THE TIED CARD OF 'leadlightlaw2.ShapeMakes'. -/
def shapeMakesCard : Claim7 := { stood := { row := shapeMakesRow, standIns := [], harness := (true, "70bc1b650ab2f852878c6b509c654a944db0393d59531cca46183425b44f1f29"), looks := true }, kinds := [], alts := [], laidByText := true, laidKinds := [.data, .data, .data, .data, .handle, .sentinel, .sentinel, .sentinel, .sentinel, .sentinel, .sentinel, .sentinel, .sentinel, .sentinel, .sentinel, .sentinel, .sentinel, .sentinel, .pinned], laidTests := true, laidLooks := .later }
def ShapeMakesCardSaid : Prop := Claim7.holds Tryz.pinned (.plain (OpenSpec.ofChange shapeMakesSpec)) shapeMakesCard

/-- THE TIED CARD OF 'leadlightlaw1.MoveGoes'. -/
def moveGoesCard : Claim7 := { stood := { row := moveGoesRow, standIns := [], harness := (true, "70bc1b650ab2f852878c6b509c654a944db0393d59531cca46183425b44f1f29"), looks := true }, kinds := [], alts := [], laidByText := true, laidKinds := [.data, .data, .data, .data, .handle, .sentinel, .sentinel, .sentinel, .sentinel, .sentinel, .sentinel, .sentinel, .sentinel, .sentinel, .sentinel, .sentinel, .sentinel, .sentinel, .pinned], laidTests := true, laidLooks := .later }
def MoveGoesCardSaid : Prop := Claim7.holds Tryz.pinned (.plain (OpenSpec.ofChange moveGoesSpec)) moveGoesCard

/-- THE TIED CARD OF 'leadlightlaw1.MoveBack'. -/
def moveBackCard : Claim7 := { stood := { row := moveBackRow, standIns := [], harness := (true, "70bc1b650ab2f852878c6b509c654a944db0393d59531cca46183425b44f1f29"), looks := true }, kinds := [], alts := [], laidByText := true, laidKinds := [.data, .data, .data, .data, .handle, .sentinel, .sentinel, .sentinel, .sentinel, .sentinel, .sentinel, .sentinel, .sentinel, .sentinel, .sentinel, .sentinel, .sentinel, .sentinel, .pinned], laidTests := true, laidLooks := .later }
def MoveBackCardSaid : Prop := Claim7.holds Tryz.pinned (.plain (OpenSpec.ofChange moveBackSpec)) moveBackCard

/-- THE SECOND FORM's CARD OF 'leadlightlaw2.ShapeMakes'. -/
def shapeMakesUptoCard : Claim7 := { stood := { row := shapeMakesUptoRow, standIns := [], harness := (true, "70bc1b650ab2f852878c6b509c654a944db0393d59531cca46183425b44f1f29"), looks := true }, kinds := [], alts := [], laidByText := true, laidKinds := [.data, .data, .data, .data, .handle, .sentinel, .sentinel, .sentinel, .sentinel, .sentinel, .sentinel, .sentinel, .sentinel, .sentinel, .sentinel, .sentinel, .sentinel, .sentinel, .pinned], laidTests := true, laidLooks := .later }
def ShapeMakesUptoCardSaid : Prop := Claim7.holds Tryz.pinned (.plain (OpenSpec.upto shapeMakesSpec)) shapeMakesUptoCard

/-- THE SECOND FORM's CARD OF 'leadlightlaw1.MoveGoes'. -/
def moveGoesUptoCard : Claim7 := { stood := { row := moveGoesUptoRow, standIns := [], harness := (true, "70bc1b650ab2f852878c6b509c654a944db0393d59531cca46183425b44f1f29"), looks := true }, kinds := [], alts := [], laidByText := true, laidKinds := [.data, .data, .data, .data, .handle, .sentinel, .sentinel, .sentinel, .sentinel, .sentinel, .sentinel, .sentinel, .sentinel, .sentinel, .sentinel, .sentinel, .sentinel, .sentinel, .pinned], laidTests := true, laidLooks := .later }
def MoveGoesUptoCardSaid : Prop := Claim7.holds Tryz.pinned (.plain (OpenSpec.upto moveGoesSpec)) moveGoesUptoCard

/-- THE SECOND FORM's CARD OF 'leadlightlaw1.MoveBack'. -/
def moveBackUptoCard : Claim7 := { stood := { row := moveBackUptoRow, standIns := [], harness := (true, "70bc1b650ab2f852878c6b509c654a944db0393d59531cca46183425b44f1f29"), looks := true }, kinds := [], alts := [], laidByText := true, laidKinds := [.data, .data, .data, .data, .handle, .sentinel, .sentinel, .sentinel, .sentinel, .sentinel, .sentinel, .sentinel, .sentinel, .sentinel, .sentinel, .sentinel, .sentinel, .sentinel, .pinned], laidTests := true, laidLooks := .later }
def MoveBackUptoCardSaid : Prop := Claim7.holds Tryz.pinned (.plain (OpenSpec.upto moveBackSpec)) moveBackUptoCard
end Rows
end Go.Proofs.YtbekidefgdijkaaGreatDoor
