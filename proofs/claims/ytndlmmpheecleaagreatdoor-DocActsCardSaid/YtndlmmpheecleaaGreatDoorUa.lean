/-
  Several texts as one: Cut1, Pp, Pq, Pka.
-/
import Derived.Test.YtndlmmpheecleaaGreatDoorDa
import Derived.Test.YtndlmmpheecleaaGreatDoorPa
import Derived.Test.YtndlmmpheecleaaGreatDoorRows
import Derived.Lib.SplitLaws
import Derived.Test.YtndlmmpheecleaaGreatDoorDp
import Derived.Lib.IndexAny
import Derived.Lib.Bytealg
import Derived.Test.YtndlmmpheecleaaGreatDoorDn
import Derived.Test.YtndlmmpheecleaaGreatDoorDz
/-
  Walks over the document's answer: a text cut by a byte.
-/
namespace Lead
open Go Go.RowKit
/-- Texts in a row that the call owns. -/
def OwnS (w : World) (base : Nat) (e : TypeId) (v : Value) (ss : List (List UInt8)) : Prop := w.ownsRow base e 1 v ss.length (ss.map fun l => .string ⟨l.toArray⟩)
theorem OwnS.nil (w : World) (base : Nat) (e : TypeId) : OwnS w base e (.slice none 0 0) [] := World.ownsRow_nil _ _ _ _
end Lead
namespace Go.Proofs.YtndlmmpheecleaaGreatDoor
open Go.RowKit Lead

end Go.Proofs.YtndlmmpheecleaaGreatDoor

/-
  Several texts as one: Spl, Pk1, Pk2.
-/
/-
  Plain: what strings.Split gives at a separator of one byte: the pieces that the document's Cut gives.
-/
namespace Lead
open Go Go.RowKit

end Lead

/-
  Plain: a selector out of a text: its steps and what they want.
-/
namespace Lead.Pk
open Lead Lead.Dc
abbrev By := List UInt8
structure Wn where
  sign : UInt8
  name : By
structure St where
  nm : By
  ws : List Wn
  right : Bool
/-! ### what is behind -/
end Lead.Pk

/-
  Plain: where a want's name ends; pieces of a text as byte arrays.
-/
namespace Lead.Pk
open Go Lead Lead.Dc
end Lead.Pk

/-
  Several texts as one: Pk4, Pk6.
-/
/-
  Plain: the state of the loop that reads a step's wants; how a want and a step lie in memory.
-/
namespace Lead.Pk
open Go Go.RowKit Lead Lead.Dc
/-- A step with its slice's address. -/
structure StX where
  nm : By
  wo : Option Addr
  wl : Nat
  wc : Nat
  ws : List Wn
  right : Bool
def StX.st (x : StX) : St := ⟨x.nm, x.ws, x.right⟩
end Lead.Pk

/-
  Plain: the words of a selector, one by one.
-/
namespace Lead.Pk
open Go Go.RowKit Lead Lead.Dc
end Lead.Pk

/-
  Plain: does an element have what is wanted; does a step fit it; do steps; what the statement PickWeighs says.
-/
namespace Lead.Pk
open Go Go.RowKit Lead Lead.Dc
end Lead.Pk
