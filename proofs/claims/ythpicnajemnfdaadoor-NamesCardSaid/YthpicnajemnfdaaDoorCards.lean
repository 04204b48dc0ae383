/-
  DERIVED. GIVEN WITH THE SEED: THE CARDS: each row of YthpicnajemnfdaaDoorRows.lean that lists a variable, with what it lists TIED to the program's text (the seventh form; the later family's looks); each row that meets fmt, with fmt's text TOLD by the authors' own Lean function (tested against real Go, not proved from fmt's source: count such statements apart). THE CARD IS WHAT COUNTS. Prove the row's statement (the work); the ties are given (YthpicnajemnfdaaDoorTie.lean); close each card by the builder's one call (the guide's Derived/Test/ToyasCard.lean, 'card_holds'). Laid BY PROGRAM, IN A SANDBOX (cutbox-door.mjs). By AI agents, Wed Nov 11 2026. No macro, syntax, notation, axiom, sorry.
-/
import Derived.Test.YthpicnajemnfdaaDoorRows
import GoSem.ClaimSeven
namespace Go.Proofs.YthpicnajemnfdaaDoor
namespace Rows

/-- THE TIED CARD OF 'leadlightlaw2.ShapeTurns'. -/
def shapeTurnsCard : Claim7 := { stood := { row := shapeTurnsRow, standIns := [], harness := (true, "54b9e7038bfdd942a909a6daadc47f81141e5f6f949495bf6c0f93a40bd43cee"), looks := true }, kinds := [], alts := [], laidByText := true, laidKinds := [.sentinel, .sentinel, .sentinel], laidTests := true, laidLooks := .later }
def ShapeTurnsCardSaid : Prop := Claim7.holds Tryd.pinned (.plain (OpenSpec.ofChange shapeTurnsSpec)) shapeTurnsCard

/-- THE TIED CARD OF 'leadlightlaw2.ShapeBoxes'. -/
def shapeBoxesCard : Claim7 := { stood := { row := shapeBoxesRow, standIns := [], harness := (true, "54b9e7038bfdd942a909a6daadc47f81141e5f6f949495bf6c0f93a40bd43cee"), looks := true }, kinds := [], alts := [], laidByText := true, laidKinds := [.sentinel, .sentinel, .sentinel], laidTests := true, laidLooks := .later }
def ShapeBoxesCardSaid : Prop := Claim7.holds Tryd.pinned (.plain (OpenSpec.ofChange shapeBoxesSpec)) shapeBoxesCard

/-- THE TIED CARD OF 'leadlightlaw1.Names'. -/
def namesCard : Claim7 := { stood := { row := namesRow, standIns := [], harness := (true, "54b9e7038bfdd942a909a6daadc47f81141e5f6f949495bf6c0f93a40bd43cee"), looks := true }, kinds := [], alts := [], laidByText := true, laidKinds := [.handle, .sentinel, .sentinel, .sentinel, .sentinel, .sentinel, .sentinel, .sentinel, .sentinel, .sentinel, .sentinel, .sentinel], laidTests := true, laidLooks := .later }
def NamesCardSaid : Prop := Claim7.holds Tryd.pinned (.plain (OpenSpec.ofChange namesSpec)) namesCard

/-- THE TIED CARD OF 'leadlightlaw2.ShapeMoves'. -/
def shapeMovesCard : Claim7 := { stood := { row := shapeMovesRow, standIns := [], harness := (true, "54b9e7038bfdd942a909a6daadc47f81141e5f6f949495bf6c0f93a40bd43cee"), looks := true }, kinds := [], alts := [], laidByText := true, laidKinds := [.sentinel, .sentinel, .sentinel, .sentinel], laidTests := true, laidLooks := .later }
def ShapeMovesCardSaid : Prop := Claim7.holds Tryd.pinned (.plain (OpenSpec.ofChange shapeMovesSpec)) shapeMovesCard

/-- THE TIED CARD OF 'leadlightlaw1.FracOrders'. -/
def fracOrdersCard : Claim7 := { stood := { row := fracOrdersRow, standIns := [], harness := (true, "54b9e7038bfdd942a909a6daadc47f81141e5f6f949495bf6c0f93a40bd43cee"), looks := true }, kinds := [], alts := [], laidByText := true, laidKinds := [.data, .data, .data, .sentinel, .sentinel, .sentinel], laidTests := true, laidLooks := .later }
def FracOrdersCardSaid : Prop := Claim7.holds Tryd.pinned (.plain (OpenSpec.ofChange fracOrdersSpec)) fracOrdersCard

/-- THE TIED CARD OF 'leadlightlaw2.ShapeHolds'. -/
def shapeHoldsCard : Claim7 := { stood := { row := shapeHoldsRow, standIns := [], harness := (true, "54b9e7038bfdd942a909a6daadc47f81141e5f6f949495bf6c0f93a40bd43cee"), looks := true }, kinds := [], alts := [], laidByText := true, laidKinds := [.handle, .sentinel, .sentinel, .sentinel, .sentinel, .sentinel, .sentinel, .sentinel, .sentinel, .sentinel, .sentinel, .sentinel], laidTests := true, laidLooks := .later }
def ShapeHoldsCardSaid : Prop := Claim7.holds Tryd.pinned (.plain (OpenSpec.ofChange shapeHoldsSpec)) shapeHoldsCard

/-- THE TIED CARD OF 'leadlightlaw1.FracSums'. -/
def fracSumsCard : Claim7 := { stood := { row := fracSumsRow, standIns := [], harness := (true, "54b9e7038bfdd942a909a6daadc47f81141e5f6f949495bf6c0f93a40bd43cee"), looks := true }, kinds := [], alts := [], laidByText := true, laidKinds := [.data, .data, .data, .handle, .sentinel, .sentinel, .sentinel, .sentinel, .sentinel, .sentinel, .sentinel, .sentinel, .sentinel, .sentinel, .sentinel], laidTests := true, laidLooks := .later }
def FracSumsCardSaid : Prop := Claim7.holds Tryd.pinned (.plain (OpenSpec.ofChange fracSumsSpec)) fracSumsCard

/-- THE TIED CARD OF 'leadlightlaw1.FracBack'. -/
def fracBackCard : Claim7 := { stood := { row := fracBackRow, standIns := [], harness := (true, "54b9e7038bfdd942a909a6daadc47f81141e5f6f949495bf6c0f93a40bd43cee"), looks := true }, kinds := [], alts := [], laidByText := true, laidKinds := [.data, .data, .data, .handle, .sentinel, .sentinel, .sentinel, .sentinel, .sentinel, .sentinel, .sentinel, .sentinel, .sentinel, .sentinel, .sentinel], laidTests := true, laidLooks := .later }
def FracBackCardSaid : Prop := Claim7.holds Tryd.pinned (.plain (OpenSpec.ofChange fracBackSpec)) fracBackCard

/-- THE SECOND FORM's CARD OF 'leadlightlaw2.ShapeTurns'. -/
def shapeTurnsUptoCard : Claim7 := { stood := { row := shapeTurnsUptoRow, standIns := [], harness := (true, "54b9e7038bfdd942a909a6daadc47f81141e5f6f949495bf6c0f93a40bd43cee"), looks := true }, kinds := [], alts := [], laidByText := true, laidKinds := [.sentinel, .sentinel, .sentinel], laidTests := true, laidLooks := .later }
def ShapeTurnsUptoCardSaid : Prop := Claim7.holds Tryd.pinned (.plain (OpenSpec.upto shapeTurnsSpec)) shapeTurnsUptoCard

/-- THE SECOND FORM's CARD OF 'leadlightlaw2.ShapeBoxes'. -/
def shapeBoxesUptoCard : Claim7 := { stood := { row := shapeBoxesUptoRow, standIns := [], harness := (true, "54b9e7038bfdd942a909a6daadc47f81141e5f6f949495bf6c0f93a40bd43cee"), looks := true }, kinds := [], alts := [], laidByText := true, laidKinds := [.sentinel, .sentinel, .sentinel], laidTests := true, laidLooks := .later }
def ShapeBoxesUptoCardSaid : Prop := Claim7.holds Tryd.pinned (.plain (OpenSpec.upto shapeBoxesSpec)) shapeBoxesUptoCard

/-- THE SECOND FORM's CARD OF 'leadlightlaw1.Names'. -/
def namesUptoCard : Claim7 := { stood := { row := namesUptoRow, standIns := [], harness := (true, "54b9e7038bfdd942a909a6daadc47f81141e5f6f949495bf6c0f93a40bd43cee"), looks := true }, kinds := [], alts := [], laidByText := true, laidKinds := [.handle, .sentinel, .sentinel, .sentinel, .sentinel, .sentinel, .sentinel, .sentinel, .sentinel, .sentinel, .sentinel, .sentinel], laidTests := true, laidLooks := .later }
def NamesUptoCardSaid : Prop := Claim7.holds Tryd.pinned (.plain (OpenSpec.upto namesSpec)) namesUptoCard

/-- THE SECOND FORM's CARD OF 'leadlightlaw2.ShapeMoves'. -/
def shapeMovesUptoCard : Claim7 := { stood := { row := shapeMovesUptoRow, standIns := [], harness := (true, "54b9e7038bfdd942a909a6daadc47f81141e5f6f949495bf6c0f93a40bd43cee"), looks := true }, kinds := [], alts := [], laidByText := true, laidKinds := [.sentinel, .sentinel, .sentinel, .sentinel], laidTests := true, laidLooks := .later }
def ShapeMovesUptoCardSaid : Prop := Claim7.holds Tryd.pinned (.plain (OpenSpec.upto shapeMovesSpec)) shapeMovesUptoCard

/-- THE SECOND FORM's CARD OF 'leadlightlaw1.FracOrders'. -/
def fracOrdersUptoCard : Claim7 := { stood := { row := fracOrdersUptoRow, standIns := [], harness := (true, "54b9e7038bfdd942a909a6daadc47f81141e5f6f949495bf6c0f93a40bd43cee"), looks := true }, kinds := [], alts := [], laidByText := true, laidKinds := [.data, .data, .data, .sentinel, .sentinel, .sentinel], laidTests := true, laidLooks := .later }
def FracOrdersUptoCardSaid : Prop := Claim7.holds Tryd.pinned (.plain (OpenSpec.upto fracOrdersSpec)) fracOrdersUptoCard

/-- THE SECOND FORM's CARD OF 'leadlightlaw2.ShapeHolds'. -/
def shapeHoldsUptoCard : Claim7 := { stood := { row := shapeHoldsUptoRow, standIns := [], harness := (true, "54b9e7038bfdd942a909a6daadc47f81141e5f6f949495bf6c0f93a40bd43cee"), looks := true }, kinds := [], alts := [], laidByText := true, laidKinds := [.handle, .sentinel, .sentinel, .sentinel, .sentinel, .sentinel, .sentinel, .sentinel, .sentinel, .sentinel, .sentinel, .sentinel], laidTests := true, laidLooks := .later }
def ShapeHoldsUptoCardSaid : Prop := Claim7.holds Tryd.pinned (.plain (OpenSpec.upto shapeHoldsSpec)) shapeHoldsUptoCard

/-- THE SECOND FORM's CARD OF 'leadlightlaw1.FracSums'. -/
def fracSumsUptoCard : Claim7 := { stood := { row := fracSumsUptoRow, standIns := [], harness := (true, "54b9e7038bfdd942a909a6daadc47f81141e5f6f949495bf6c0f93a40bd43cee"), looks := true }, kinds := [], alts := [], laidByText := true, laidKinds := [.data, .data, .data, .handle, .sentinel, .sentinel, .sentinel, .sentinel, .sentinel, .sentinel, .sentinel, .sentinel, .sentinel, .sentinel, .sentinel], laidTests := true, laidLooks := .later }
def FracSumsUptoCardSaid : Prop := Claim7.holds Tryd.pinned (.plain (OpenSpec.upto fracSumsSpec)) fracSumsUptoCard

/-- THE SECOND FORM's CARD OF 'leadlightlaw1.FracBack'. -/
def fracBackUptoCard : Claim7 := { stood := { row := fracBackUptoRow, standIns := [], harness := (true, "54b9e7038bfdd942a909a6daadc47f81141e5f6f949495bf6c0f93a40bd43cee"), looks := true }, kinds := [], alts := [], laidByText := true, laidKinds := [.data, .data, .data, .handle, .sentinel, .sentinel, .sentinel, .sentinel, .sentinel, .sentinel, .sentinel, .sentinel, .sentinel, .sentinel, .sentinel], laidTests := true, laidLooks := .later }
def FracBackUptoCardSaid : Prop := Claim7.holds Tryd.pinned (.plain (OpenSpec.upto fracBackSpec)) fracBackUptoCard
end Rows
end Go.Proofs.YthpicnajemnfdaaDoor
