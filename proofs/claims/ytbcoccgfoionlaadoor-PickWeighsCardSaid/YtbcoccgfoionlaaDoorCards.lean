/-
  DERIVED. GIVEN WITH THE SEED: THE CARDS: each row of YtbcoccgfoionlaaDoorRows.lean that lists a variable, with what it lists TIED to the program's text (the seventh form; the later family's looks); each row that meets fmt, with fmt's text TOLD by the authors' own Lean function (tested against real Go, not proved from fmt's source: count such statements apart). THE CARD IS WHAT COUNTS. Prove the row's statement (the work); the ties are given (YtbcoccgfoionlaaDoorTie.lean); close each card by the builder's one call (the guide's Derived/Test/ToyasCard.lean, 'card_holds'). Laid BY PROGRAM, IN A SANDBOX (cutbox-door.mjs). By AI agents, Wed Nov 11 2026. No macro, syntax, notation, axiom, sorry.
-/
import Derived.Test.YtbcoccgfoionlaaDoorRows
import GoSem.ClaimSeven
namespace Go.Proofs.YtbcoccgfoionlaaDoor
namespace Rows

/-- THE TIED CARD OF 'leadlightlaw1.DocNew'. -/
def docNewCard : Claim7 := { stood := { row := docNewRow, standIns := [], harness := (true, "ee0ce6c398d846774005d7febd55ebfa5cedf89ac71ebf8e69889b2d91b2d3e5"), looks := true }, kinds := [], alts := [], laidByText := true, laidKinds := [.handle, .sentinel, .sentinel, .sentinel, .sentinel, .sentinel, .sentinel, .sentinel, .sentinel, .sentinel, .sentinel, .sentinel], laidTests := true, laidLooks := .later }
def DocNewCardSaid : Prop := Claim7.holds Tryd.pinned (.plain (OpenSpec.ofChange docNewSpec)) docNewCard

/-- THE TIED CARD OF 'leadlightlaw1.PickWeighs'. -/
def pickWeighsCard : Claim7 := { stood := { row := pickWeighsRow, standIns := [], harness := (true, "ee0ce6c398d846774005d7febd55ebfa5cedf89ac71ebf8e69889b2d91b2d3e5"), looks := true }, kinds := [], alts := [], laidByText := true, laidKinds := [.data, .sentinel, .sentinel, .sentinel, .sentinel, .sentinel, .sentinel, .pinned], laidTests := true, laidLooks := .later }
def PickWeighsCardSaid : Prop := Claim7.holds Tryd.pinned (.plain (OpenSpec.ofChange pickWeighsSpec)) pickWeighsCard

/-- THE TIED CARD OF 'leadlightlaw1.PickLast'. -/
def pickLastCard : Claim7 := { stood := { row := pickLastRow, standIns := [], harness := (true, "ee0ce6c398d846774005d7febd55ebfa5cedf89ac71ebf8e69889b2d91b2d3e5"), looks := true }, kinds := [], alts := [], laidByText := true, laidKinds := [.data, .sentinel, .sentinel, .sentinel, .sentinel, .sentinel, .sentinel, .pinned], laidTests := true, laidLooks := .later }
def PickLastCardSaid : Prop := Claim7.holds Tryd.pinned (.plain (OpenSpec.ofChange pickLastSpec)) pickLastCard

/-- THE SECOND FORM's CARD OF 'leadlightlaw1.DocNew'. -/
def docNewUptoCard : Claim7 := { stood := { row := docNewUptoRow, standIns := [], harness := (true, "ee0ce6c398d846774005d7febd55ebfa5cedf89ac71ebf8e69889b2d91b2d3e5"), looks := true }, kinds := [], alts := [], laidByText := true, laidKinds := [.handle, .sentinel, .sentinel, .sentinel, .sentinel, .sentinel, .sentinel, .sentinel, .sentinel, .sentinel, .sentinel, .sentinel], laidTests := true, laidLooks := .later }
def DocNewUptoCardSaid : Prop := Claim7.holds Tryd.pinned (.plain (OpenSpec.upto docNewSpec)) docNewUptoCard

/-- THE SECOND FORM's CARD OF 'leadlightlaw1.PickWeighs'. -/
def pickWeighsUptoCard : Claim7 := { stood := { row := pickWeighsUptoRow, standIns := [], harness := (true, "ee0ce6c398d846774005d7febd55ebfa5cedf89ac71ebf8e69889b2d91b2d3e5"), looks := true }, kinds := [], alts := [], laidByText := true, laidKinds := [.data, .sentinel, .sentinel, .sentinel, .sentinel, .sentinel, .sentinel, .pinned], laidTests := true, laidLooks := .later }
def PickWeighsUptoCardSaid : Prop := Claim7.holds Tryd.pinned (.plain (OpenSpec.upto pickWeighsSpec)) pickWeighsUptoCard

/-- THE SECOND FORM's CARD OF 'leadlightlaw1.PickLast'. -/
def pickLastUptoCard : Claim7 := { stood := { row := pickLastUptoRow, standIns := [], harness := (true, "ee0ce6c398d846774005d7febd55ebfa5cedf89ac71ebf8e69889b2d91b2d3e5"), looks := true }, kinds := [], alts := [], laidByText := true, laidKinds := [.data, .sentinel, .sentinel, .sentinel, .sentinel, .sentinel, .sentinel, .pinned], laidTests := true, laidLooks := .later }
def PickLastUptoCardSaid : Prop := Claim7.holds Tryd.pinned (.plain (OpenSpec.upto pickLastSpec)) pickLastUptoCard
end Rows
end Go.Proofs.YtbcoccgfoionlaaDoor
