/-
  Several texts as one: Shape1, Shape2, Shape3, Shape4.
-/
import Derived.Test.YtlhadgnpkooiaaaGreatDoorRows
import Derived.Test.YtlhadgnpkooiaaaGreatDoorPa
import Derived.Test.YtlhadgnpkooiaaaGreatDoorFa
/-
  Walks over package shape: less, side.
-/
namespace Go.Proofs.YtlhadgnpkooiaaaGreatDoor
open Go.RowKit Lead
end Go.Proofs.YtlhadgnpkooiaaaGreatDoor

/-
  Walks over package shape: crossing.
-/
namespace Go.Proofs.YtlhadgnpkooiaaaGreatDoor
open Go.RowKit Lead
end Go.Proofs.YtlhadgnpkooiaaaGreatDoor

/-
  Walks over package shape: small, point.
-/
namespace Go.Proofs.YtlhadgnpkooiaaaGreatDoor
open Go.RowKit Lead
end Go.Proofs.YtlhadgnpkooiaaaGreatDoor

/-
  Walks over package shape: Check.
-/
namespace Go.Proofs.YtlhadgnpkooiaaaGreatDoor
open Go.RowKit Lead
end Go.Proofs.YtlhadgnpkooiaaaGreatDoor
