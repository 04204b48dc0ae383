/-
  DERIVED. GIVEN WITH THE SEED: THE CARDS: each row of YtnpieocpniakpaaDoorRows.lean that lists a variable, with what it lists TIED to the program's text (the seventh form; the later family's looks); each row that meets fmt, with fmt's text TOLD by the authors' own Lean function (tested against real Go, not proved from fmt's source: count such statements apart). THE CARD IS WHAT COUNTS. Prove the row's statement (the work); the ties are given (YtnpieocpniakpaaDoorTie.lean); close each card by the builder's one call (the guide's Derived/Test/ToyasCard.lean, 'card_holds'). Laid BY PROGRAM, IN A SANDBOX (cutbox-door.mjs). By AI agents, Wed Nov 11 2026. No macro, syntax, notation, axiom, sorry.
-/
import Derived.Test.YtnpieocpniakpaaDoorRows
import GoSem.ClaimSeven
namespace Go.Proofs.YtnpieocpniakpaaDoor
namespace Rows

/-- THE TIED CARD OF 'leadlightlaw2.StyleNone'. -/
def styleNoneCard : Claim7 := { stood := { row := styleNoneRow, standIns := [], harness := (true, "9818bad19739334232b21adce09298e08a283b8e95be3d5c95a41021d1163261"), looks := false }, kinds := [], alts := [], laidByText := true, laidKinds := [.data, .sentinel, .sentinel, .sentinel, .sentinel, .sentinel, .sentinel, .sentinel, .pinned], laidTests := true, laidLooks := .later }
def StyleNoneCardSaid : Prop := Claim7.holds Tryd.pinned (.plain (OpenSpec.ofChange styleNoneSpec)) styleNoneCard

/-- THE TIED CARD OF 'leadlightlaw2.StyleHeirs'. -/
def styleHeirsCard : Claim7 := { stood := { row := styleHeirsRow, standIns := [], harness := (true, "9818bad19739334232b21adce09298e08a283b8e95be3d5c95a41021d1163261"), looks := false }, kinds := [], alts := [], laidByText := true, laidKinds := [.data, .sentinel, .sentinel, .sentinel, .sentinel, .sentinel, .sentinel, .sentinel, .pinned], laidTests := true, laidLooks := .later }
def StyleHeirsCardSaid : Prop := Claim7.holds Tryd.pinned (.plain (OpenSpec.ofChange styleHeirsSpec)) styleHeirsCard

/-- THE SECOND FORM's CARD OF 'leadlightlaw2.StyleNone'. -/
def styleNoneUptoCard : Claim7 := { stood := { row := styleNoneUptoRow, standIns := [], harness := (true, "9818bad19739334232b21adce09298e08a283b8e95be3d5c95a41021d1163261"), looks := false }, kinds := [], alts := [], laidByText := true, laidKinds := [.data, .sentinel, .sentinel, .sentinel, .sentinel, .sentinel, .sentinel, .sentinel, .pinned], laidTests := true, laidLooks := .later }
def StyleNoneUptoCardSaid : Prop := Claim7.holds Tryd.pinned (.plain (OpenSpec.upto styleNoneSpec)) styleNoneUptoCard

/-- THE SECOND FORM's CARD OF 'leadlightlaw2.StyleHeirs'. -/
def styleHeirsUptoCard : Claim7 := { stood := { row := styleHeirsUptoRow, standIns := [], harness := (true, "9818bad19739334232b21adce09298e08a283b8e95be3d5c95a41021d1163261"), looks := false }, kinds := [], alts := [], laidByText := true, laidKinds := [.data, .sentinel, .sentinel, .sentinel, .sentinel, .sentinel, .sentinel, .sentinel, .pinned], laidTests := true, laidLooks := .later }
def StyleHeirsUptoCardSaid : Prop := Claim7.holds Tryd.pinned (.plain (OpenSpec.upto styleHeirsSpec)) styleHeirsUptoCard
end Rows
end Go.Proofs.YtnpieocpniakpaaDoor
