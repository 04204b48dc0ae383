/-
  Several texts as one: Dec1, Dec4, Dec7.
-/
import Derived.Test.YtndlmmpheecleaaGreatDoorPa
import Derived.Lib.ItoaLen
import Derived.Lib.AtoiAllCases
import Derived.Lib.AtoiTie
import Derived.Lib.ItoaMem
import Derived.Lib.IndexBytes
import Derived.Lib.IndexMore
/-
  Plain: texts that are cut by a byte; numbers as digits.
-/
namespace Lead
open Go Go.RowKit

end Lead

/-
  Plain: fractions as texts: what is read.
-/
namespace Lead
open Go Go.RowKit

end Lead

/-
  Plain: package frac's numbers are the reference's; a text cut at its first byte.
-/
namespace Lead
open Go Go.RowKit

end Lead
