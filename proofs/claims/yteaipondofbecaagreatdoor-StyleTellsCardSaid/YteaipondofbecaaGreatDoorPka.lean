/-
  Plain: does an element have what is wanted; does a step fit it; do steps; what the statement PickWeighs says.
-/
import Derived.Test.YteaipondofbecaaGreatDoorPq
import Derived.Test.YteaipondofbecaaGreatDoorPk8
import Derived.Test.YteaipondofbecaaGreatDoorDp
namespace Lead.Pk
open Go Go.RowKit Lead Lead.Dc
def kId : ByteArray := ⟨#[105, 100]⟩
def kClass : ByteArray := ⟨#[99, 108, 97, 115, 115]⟩
/-- An element that has what is wanted. -/
def hasV (at' : List (ByteArray × ByteArray)) (x : Wn) : Bool :=
  if x.sign = 35 then decide (attrV kId at' = some (bs x.name))
  else if x.sign = 46 then decide (x.name ∈ cutL 32 (((attrV kClass at').getD ⟨#[]⟩).data.toList))
  else (attrV (bs x.name) at').isSome
def stF (e : El) (x : St) : Bool := (decide (x.nm = []) || decide (x.nm = [42]) || decide (bs x.nm = e.name)) && x.ws.all (hasV e.attrs)
/-- The numbers above an element, from its parent on. -/
def ups (E : Els) : Nat → Nat → List Nat
  | 0, _ => []
  | f + 1, n => match elAt E n with
    | none => []
    | some e => if 0 ≤ e.parent then e.parent.toNat :: ups E f e.parent.toNat else []
/-- Steps, the last one first: do they fit an element? -/
def fitsR (E : Els) : List St → Nat → Bool
  | [], _ => false
  | x :: r, n => match elAt E n with
    | none => false
    | some e => stF e x && (r.isEmpty || (if x.right then (ups E 10 n).take 1 else ups E 10 n).any (fitsR E r))
def fitsL (E : Els) (l : List St) (n : Nat) : Bool := fitsR E l.reverse n
end Lead.Pk
