/-
  DERIVED. GIVEN WITH THE SEED: THE CARDS: each row of YtccojeglidbpoaaDoorRows.lean that lists a variable, with what it lists TIED to the program's text (the seventh form; the later family's looks); each row that meets fmt, with fmt's text TOLD by the authors' own Lean function (tested against real Go, not proved from fmt's source: count such statements apart). THE CARD IS WHAT COUNTS. Prove the row's statement (the work); the ties are given (YtccojeglidbpoaaDoorTie.lean); close each card by the builder's one call (the guide's Derived/Test/ToyasCard.lean, 'card_holds'). Laid BY PROGRAM, IN A SANDBOX (cutbox-door.mjs). By AI agents, Wed Nov 11 2026. No macro, syntax, notation, axiom, sorry.
-/
import Derived.Test.YtccojeglidbpoaaDoorRows
import GoSem.ClaimSeven
namespace Go.Proofs.YtccojeglidbpoaaDoor
namespace Rows

/-- THE TIED CARD OF 'leadlightlaw1.DocOne'. -/
def docOneCard : Claim7 := { stood := { row := docOneRow, standIns := [], harness := (true, "d202720275f58fd60217c0103eeea10baa6531a290288f05f440ef0fa66c6f06"), looks := true }, kinds := [], alts := [], laidByText := true, laidKinds := [.sentinel, .sentinel, .sentinel, .sentinel, .sentinel, .sentinel, .sentinel, .sentinel, .sentinel], laidTests := true, laidLooks := .later }
def DocOneCardSaid : Prop := Claim7.holds Tryd.pinned (.plain (OpenSpec.ofChange docOneSpec)) docOneCard

/-- THE TIED CARD OF 'leadlightlaw1.DocNew'. -/
def docNewCard : Claim7 := { stood := { row := docNewRow, standIns := [], harness := (true, "d202720275f58fd60217c0103eeea10baa6531a290288f05f440ef0fa66c6f06"), looks := true }, kinds := [], alts := [], laidByText := true, laidKinds := [.handle, .sentinel, .sentinel, .sentinel, .sentinel, .sentinel, .sentinel, .sentinel, .sentinel, .sentinel, .sentinel, .sentinel], laidTests := true, laidLooks := .later }
def DocNewCardSaid : Prop := Claim7.holds Tryd.pinned (.plain (OpenSpec.ofChange docNewSpec)) docNewCard

/-- THE SECOND FORM's CARD OF 'leadlightlaw1.DocOne'. -/
def docOneUptoCard : Claim7 := { stood := { row := docOneUptoRow, standIns := [], harness := (true, "d202720275f58fd60217c0103eeea10baa6531a290288f05f440ef0fa66c6f06"), looks := true }, kinds := [], alts := [], laidByText := true, laidKinds := [.sentinel, .sentinel, .sentinel, .sentinel, .sentinel, .sentinel, .sentinel, .sentinel, .sentinel], laidTests := true, laidLooks := .later }
def DocOneUptoCardSaid : Prop := Claim7.holds Tryd.pinned (.plain (OpenSpec.upto docOneSpec)) docOneUptoCard

/-- THE SECOND FORM's CARD OF 'leadlightlaw1.DocNew'. -/
def docNewUptoCard : Claim7 := { stood := { row := docNewUptoRow, standIns := [], harness := (true, "d202720275f58fd60217c0103eeea10baa6531a290288f05f440ef0fa66c6f06"), looks := true }, kinds := [], alts := [], laidByText := true, laidKinds := [.handle, .sentinel, .sentinel, .sentinel, .sentinel, .sentinel, .sentinel, .sentinel, .sentinel, .sentinel, .sentinel, .sentinel], laidTests := true, laidLooks := .later }
def DocNewUptoCardSaid : Prop := Claim7.holds Tryd.pinned (.plain (OpenSpec.upto docNewSpec)) docNewUptoCard
end Rows
end Go.Proofs.YtccojeglidbpoaaDoor
