/-
  DERIVED. GIVEN WITH THE SEED: THE CARDS: each row of YtpdaenldmgpkjaaGreatDoorRows.lean that lists a variable, with what it lists TIED to the program's text (the seventh form; the later family's looks); each row that meets fmt, with fmt's text TOLD by the authors' own Lean function (tested against real Go, not proved from fmt's source: count such statements apart). THE CARD IS WHAT COUNTS. Prove the row's statement (the work); the ties are given (YtpdaenldmgpkjaaGreatDoorTie.lean); close each card by the builder's one call (the guide's Derived/Test/ToyasCard.lean, 'card_holds'). Laid BY PROGRAM, IN A SANDBOX (cutbox-door.mjs). By AI agents, Wed Nov 11 2026. No macro, syntax, notation, axiom, sorry.
-/
import Derived.Test.YtpdaenldmgpkjaaGreatDoorRows
import GoSem.ClaimSeven
namespace Go.Proofs.YtpdaenldmgpkjaaGreatDoor
namespace Rows

/-- THE TIED CARD OF 'leadlightlaw1.MarkApart'. -/
def markApartCard : Claim7 := { stood := { row := markApartRow, standIns := [], harness := (true, "4f54d757e766fb2389037c5fbc89a95172b15950dc3e67b2423ff62d5d3c174b"), looks := true }, kinds := [], alts := [], laidByText := true, laidKinds := [.sentinel, .sentinel, .sentinel, .sentinel, .sentinel, .sentinel, .sentinel], laidTests := true, laidLooks := .later }
def MarkApartCardSaid : Prop := Claim7.holds Tryz.pinned (.plain (OpenSpec.ofChange markApartSpec)) markApartCard

/-- THE TIED CARD OF 'leadlightlaw1.MarkTexts'. -/
def markTextsCard : Claim7 := { stood := { row := markTextsRow, standIns := [], harness := (true, "4f54d757e766fb2389037c5fbc89a95172b15950dc3e67b2423ff62d5d3c174b"), looks := true }, kinds := [], alts := [], laidByText := true, laidKinds := [.handle, .sentinel, .sentinel, .sentinel, .sentinel, .sentinel, .sentinel, .sentinel, .sentinel, .sentinel, .sentinel, .sentinel], laidTests := true, laidLooks := .later }
def MarkTextsCardSaid : Prop := Claim7.holds Tryz.pinned (.plain (OpenSpec.ofChange markTextsSpec)) markTextsCard

/-- THE TIED CARD OF 'leadlightlaw1.MarkReads'. -/
def markReadsCard : Claim7 := { stood := { row := markReadsRow, standIns := [], harness := (true, "4f54d757e766fb2389037c5fbc89a95172b15950dc3e67b2423ff62d5d3c174b"), looks := true }, kinds := [], alts := [], laidByText := true, laidKinds := [.handle, .sentinel, .sentinel, .sentinel, .sentinel, .sentinel, .sentinel, .sentinel, .sentinel, .sentinel, .sentinel, .sentinel], laidTests := true, laidLooks := .later }
def MarkReadsCardSaid : Prop := Claim7.holds Tryz.pinned (.plain (OpenSpec.ofChange markReadsSpec)) markReadsCard

/-- THE TIED CARD OF 'leadlightlaw2.ShapeMakes'. -/
def shapeMakesCard : Claim7 := { stood := { row := shapeMakesRow, standIns := [], harness := (true, "4f54d757e766fb2389037c5fbc89a95172b15950dc3e67b2423ff62d5d3c174b"), looks := true }, kinds := [], alts := [], laidByText := true, laidKinds := [.data, .data, .data, .data, .handle, .sentinel, .sentinel, .sentinel, .sentinel, .sentinel, .sentinel, .sentinel, .sentinel, .sentinel, .sentinel, .sentinel, .sentinel, .sentinel, .pinned], laidTests := true, laidLooks := .later }
def ShapeMakesCardSaid : Prop := Claim7.holds Tryz.pinned (.plain (OpenSpec.ofChange shapeMakesSpec)) shapeMakesCard

/-- THE SECOND FORM's CARD OF 'leadlightlaw1.MarkApart'. -/
def markApartUptoCard : Claim7 := { stood := { row := markApartUptoRow, standIns := [], harness := (true, "4f54d757e766fb2389037c5fbc89a95172b15950dc3e67b2423ff62d5d3c174b"), looks := true }, kinds := [], alts := [], laidByText := true, laidKinds := [.sentinel, .sentinel, .sentinel, .sentinel, .sentinel, .sentinel, .sentinel], laidTests := true, laidLooks := .later }
def MarkApartUptoCardSaid : Prop := Claim7.holds Tryz.pinned (.plain (OpenSpec.upto markApartSpec)) markApartUptoCard

/-- THE SECOND FORM's CARD OF 'leadlightlaw1.MarkTexts'. -/
def markTextsUptoCard : Claim7 := { stood := { row := markTextsUptoRow, standIns := [], harness := (true, "4f54d757e766fb2389037c5fbc89a95172b15950dc3e67b2423ff62d5d3c174b"), looks := true }, kinds := [], alts := [], laidByText := true, laidKinds := [.handle, .sentinel, .sentinel, .sentinel, .sentinel, .sentinel, .sentinel, .sentinel, .sentinel, .sentinel, .sentinel, .sentinel], laidTests := true, laidLooks := .later }
def MarkTextsUptoCardSaid : Prop := Claim7.holds Tryz.pinned (.plain (OpenSpec.upto markTextsSpec)) markTextsUptoCard

/-- THE SECOND FORM's CARD OF 'leadlightlaw1.MarkReads'. -/
def markReadsUptoCard : Claim7 := { stood := { row := markReadsUptoRow, standIns := [], harness := (true, "4f54d757e766fb2389037c5fbc89a95172b15950dc3e67b2423ff62d5d3c174b"), looks := true }, kinds := [], alts := [], laidByText := true, laidKinds := [.handle, .sentinel, .sentinel, .sentinel, .sentinel, .sentinel, .sentinel, .sentinel, .sentinel, .sentinel, .sentinel, .sentinel], laidTests := true, laidLooks := .later }
def MarkReadsUptoCardSaid : Prop := Claim7.holds Tryz.pinned (.plain (OpenSpec.upto markReadsSpec)) markReadsUptoCard

/-- THE SECOND FORM's CARD OF 'leadlightlaw2.ShapeMakes'. -/
def shapeMakesUptoCard : Claim7 := { stood := { row := shapeMakesUptoRow, standIns := [], harness := (true, "4f54d757e766fb2389037c5fbc89a95172b15950dc3e67b2423ff62d5d3c174b"), looks := true }, kinds := [], alts := [], laidByText := true, laidKinds := [.data, .data, .data, .data, .handle, .sentinel, .sentinel, .sentinel, .sentinel, .sentinel, .sentinel, .sentinel, .sentinel, .sentinel, .sentinel, .sentinel, .sentinel, .sentinel, .pinned], laidTests := true, laidLooks := .later }
def ShapeMakesUptoCardSaid : Prop := Claim7.holds Tryz.pinned (.plain (OpenSpec.upto shapeMakesSpec)) shapeMakesUptoCard
end Rows
end Go.Proofs.YtpdaenldmgpkjaaGreatDoor
