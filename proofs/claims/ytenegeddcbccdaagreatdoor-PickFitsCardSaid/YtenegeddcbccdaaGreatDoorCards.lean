/-
  DERIVED. GIVEN WITH THE SEED: THE CARDS: each row of YtenegeddcbccdaaGreatDoorRows.lean that lists a variable, with what it lists TIED to the program's text (the seventh form; the later family's looks); each row that meets fmt, with fmt's text TOLD by the authors' own Lean function (tested against real Go, not proved from fmt's source: count such statements apart). THE CARD IS WHAT COUNTS. Prove the row's statement (the work); the ties are given (YtenegeddcbccdaaGreatDoorTie.lean); close each card by the builder's one call (the guide's Derived/Test/ToyasCard.lean, 'card_holds'). Laid BY PROGRAM, IN A SANDBOX (cutbox-door.mjs). By AI agents, Wed Nov 11 2026. No macro, syntax, notation, axiom, sorry.
-/
import Derived.Test.YtenegeddcbccdaaGreatDoorRows
import GoSem.ClaimSeven
namespace Go.Proofs.YtenegeddcbccdaaGreatDoor
namespace Rows

/-- THE TIED CARD OF 'leadlightlaw1.DocActs'. -/
def docActsCard : Claim7 := { stood := { row := docActsRow, standIns := [], harness := (true, "6fe08b979d4177b9bfa42a464c11b147d11b999f1a4637db204353ec6150e8ed"), looks := true }, kinds := [], alts := [], laidByText := true, laidKinds := [.handle, .sentinel, .sentinel, .sentinel, .sentinel, .sentinel, .sentinel, .sentinel, .sentinel, .sentinel, .sentinel, .sentinel], laidTests := true, laidLooks := .later }
def DocActsCardSaid : Prop := Claim7.holds Tryz.pinned (.plain (OpenSpec.ofChange docActsSpec)) docActsCard

/-- THE TIED CARD OF 'leadlightlaw1.PickFits'. -/
def pickFitsCard : Claim7 := { stood := { row := pickFitsRow, standIns := [], harness := (true, "6fe08b979d4177b9bfa42a464c11b147d11b999f1a4637db204353ec6150e8ed"), looks := true }, kinds := [], alts := [], laidByText := true, laidKinds := [.data, .handle, .sentinel, .sentinel, .sentinel, .sentinel, .sentinel, .sentinel, .sentinel, .sentinel, .sentinel, .sentinel, .sentinel, .pinned], laidTests := true, laidLooks := .later }
def PickFitsCardSaid : Prop := Claim7.holds Tryz.pinned (.plain (OpenSpec.ofChange pickFitsSpec)) pickFitsCard

/-- THE TIED CARD OF 'leadlightlaw2.StyleTells'. -/
def styleTellsCard : Claim7 := { stood := { row := styleTellsRow, standIns := [], harness := (true, "6fe08b979d4177b9bfa42a464c11b147d11b999f1a4637db204353ec6150e8ed"), looks := true }, kinds := [], alts := [], laidByText := true, laidKinds := [.data, .handle, .sentinel, .sentinel, .sentinel, .sentinel, .sentinel, .sentinel, .sentinel, .sentinel, .sentinel, .sentinel, .sentinel, .pinned], laidTests := true, laidLooks := .later }
def StyleTellsCardSaid : Prop := Claim7.holds Tryz.pinned (.plain (OpenSpec.ofChange styleTellsSpec)) styleTellsCard

/-- THE SECOND FORM's CARD OF 'leadlightlaw1.DocActs'. -/
def docActsUptoCard : Claim7 := { stood := { row := docActsUptoRow, standIns := [], harness := (true, "6fe08b979d4177b9bfa42a464c11b147d11b999f1a4637db204353ec6150e8ed"), looks := true }, kinds := [], alts := [], laidByText := true, laidKinds := [.handle, .sentinel, .sentinel, .sentinel, .sentinel, .sentinel, .sentinel, .sentinel, .sentinel, .sentinel, .sentinel, .sentinel], laidTests := true, laidLooks := .later }
def DocActsUptoCardSaid : Prop := Claim7.holds Tryz.pinned (.plain (OpenSpec.upto docActsSpec)) docActsUptoCard

/-- THE SECOND FORM's CARD OF 'leadlightlaw1.PickFits'. -/
def pickFitsUptoCard : Claim7 := { stood := { row := pickFitsUptoRow, standIns := [], harness := (true, "6fe08b979d4177b9bfa42a464c11b147d11b999f1a4637db204353ec6150e8ed"), looks := true }, kinds := [], alts := [], laidByText := true, laidKinds := [.data, .handle, .sentinel, .sentinel, .sentinel, .sentinel, .sentinel, .sentinel, .sentinel, .sentinel, .sentinel, .sentinel, .sentinel, .pinned], laidTests := true, laidLooks := .later }
def PickFitsUptoCardSaid : Prop := Claim7.holds Tryz.pinned (.plain (OpenSpec.upto pickFitsSpec)) pickFitsUptoCard

/-- THE SECOND FORM's CARD OF 'leadlightlaw2.StyleTells'. -/
def styleTellsUptoCard : Claim7 := { stood := { row := styleTellsUptoRow, standIns := [], harness := (true, "6fe08b979d4177b9bfa42a464c11b147d11b999f1a4637db204353ec6150e8ed"), looks := true }, kinds := [], alts := [], laidByText := true, laidKinds := [.data, .handle, .sentinel, .sentinel, .sentinel, .sentinel, .sentinel, .sentinel, .sentinel, .sentinel, .sentinel, .sentinel, .sentinel, .pinned], laidTests := true, laidLooks := .later }
def StyleTellsUptoCardSaid : Prop := Claim7.holds Tryz.pinned (.plain (OpenSpec.upto styleTellsSpec)) styleTellsUptoCard
end Rows
end Go.Proofs.YtenegeddcbccdaaGreatDoor
