/-
  Walks: the statements' helper 'halved'; Cmp and Add with what is known.
-/
import Derived.Test.YtbekidefgdijkaaGreatDoorFrac6
import Derived.Test.YtbekidefgdijkaaGreatDoorFa
import Derived.Test.YtbekidefgdijkaaGreatDoorPa
namespace Go.Proofs.YtbekidefgdijkaaGreatDoor
open Go.RowKit Lead

theorem half_c : mkC 2 (-4) = 0 := by decide +kernel
theorem half_n : lowN 2 (-4) = -1 := by decide +kernel
theorem half_d : lowD 2 (-4) = 2 := by decide +kernel
theorem half_t : txtF (-1) 2 = [45, 49, 47, 50] := by decide +kernel

end Go.Proofs.YtbekidefgdijkaaGreatDoor
