/-
  DERIVED. GIVEN WITH THE SEED: THE CARDS: each row of YtlhadgnpkooiaaaGreatDoorRows.lean that lists a variable, with what it lists TIED to the program's text (the seventh form; the later family's looks); each row that meets fmt, with fmt's text TOLD by the authors' own Lean function (tested against real Go, not proved from fmt's source: count such statements apart). THE CARD IS WHAT COUNTS. Prove the row's statement (the work); the ties are given (YtlhadgnpkooiaaaGreatDoorTie.lean); close each card by the builder's one call (the guide's Derived/Test/ToyasCard.lean, 'card_holds'). Laid BY PROGRAM, IN A SANDBOX (cutbox-door.mjs). By AI agents, Wed Nov 11 2026. No macro, syntax, notation, axiom, sorry.
-/
import Derived.Test.YtlhadgnpkooiaaaGreatDoorRows
import GoSem.ClaimSeven
namespace Go.Proofs.YtlhadgnpkooiaaaGreatDoor
namespace Rows

/-- THE TIED CARD OF 'leadlightlaw1.MoveGoes'. -/
def moveGoesCard : Claim7 := { stood := { row := moveGoesRow, standIns := [], harness := (true, "bb954f730d59e1e1597398cadbd5e23f63d331bba419c747921eae48e9294f0f"), looks := true }, kinds := [], alts := [], laidByText := true, laidKinds := [.data, .data, .data, .data, .handle, .sentinel, .sentinel, .sentinel, .sentinel, .sentinel, .sentinel, .sentinel, .sentinel, .sentinel, .sentinel, .sentinel, .sentinel, .sentinel, .pinned], laidTests := true, laidLooks := .later }
def MoveGoesCardSaid : Prop := Claim7.holds Tryz.pinned (.plain (OpenSpec.ofChange moveGoesSpec)) moveGoesCard

/-- THE SECOND FORM's CARD OF 'leadlightlaw1.MoveGoes'. -/
def moveGoesUptoCard : Claim7 := { stood := { row := moveGoesUptoRow, standIns := [], harness := (true, "bb954f730d59e1e1597398cadbd5e23f63d331bba419c747921eae48e9294f0f"), looks := true }, kinds := [], alts := [], laidByText := true, laidKinds := [.data, .data, .data, .data, .handle, .sentinel, .sentinel, .sentinel, .sentinel, .sentinel, .sentinel, .sentinel, .sentinel, .sentinel, .sentinel, .sentinel, .sentinel, .sentinel, .pinned], laidTests := true, laidLooks := .later }
def MoveGoesUptoCardSaid : Prop := Claim7.holds Tryz.pinned (.plain (OpenSpec.upto moveGoesSpec)) moveGoesUptoCard
end Rows
end Go.Proofs.YtlhadgnpkooiaaaGreatDoor
