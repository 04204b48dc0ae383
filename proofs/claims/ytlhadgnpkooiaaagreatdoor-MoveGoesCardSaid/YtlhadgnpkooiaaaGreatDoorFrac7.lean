/-
  Walks: the statements' helper 'halved'; Cmp and Add with what is known.
-/
import Derived.Test.YtlhadgnpkooiaaaGreatDoorFrac6
import Derived.Test.YtlhadgnpkooiaaaGreatDoorFa
import Derived.Test.YtlhadgnpkooiaaaGreatDoorPa
namespace Go.Proofs.YtlhadgnpkooiaaaGreatDoor
open Go.RowKit Lead

end Go.Proofs.YtlhadgnpkooiaaaGreatDoor
