/-
  DERIVED. GIVEN WITH THE SEED: THE PROGRAM's TIES (one call each: nine closed facts by the kernel) AND EACH ROW's TIE, after the 31st guide's Derived/Test/Toyas{Tie, Card}.lean. No idea stands in it: it is a product of the set-up. Laid BY PROGRAM, IN A SANDBOX (cutbox-door.mjs). By AI agents, Wed Nov 11 2026. No macro, syntax, notation, axiom, sorry.
-/
import Derived.Test.YthpicnajemnfdaaDoorRows
import Derived.LaidByTextLater
import Derived.SevenTiedAt
import Derived.LaidSub
import Derived.LaidOnce
namespace Go.Proofs.YthpicnajemnfdaaDoor
open Go
set_option maxRecDepth 100000
theorem seatTie1 : Tryd.prog.laidByTextLater [("math/bits.deBruijn32tab", Rows.laid_math_bits_deBruijn32tab), ("math/bits.deBruijn64tab", Rows.laid_math_bits_deBruijn64tab), ("internal/strconv.uint64pow10", Rows.laid_internal_strconv_uint64pow10), ("errors.errorType", Rows.laid_errors_errorType), ("leadlight/api.ErrText", Rows.laid_leadlight_api_ErrText), ("leadlight/api.ErrBound", Rows.laid_leadlight_api_ErrBound), ("leadlight/api.ErrShape", Rows.laid_leadlight_api_ErrShape), ("leadlight/api.ErrName", Rows.laid_leadlight_api_ErrName), ("leadlight/api.ErrNone", Rows.laid_leadlight_api_ErrNone), ("leadlight/api.ErrExist", Rows.laid_leadlight_api_ErrExist), ("leadlight/api.ErrFull", Rows.laid_leadlight_api_ErrFull), ("leadlight/api.ErrDeep", Rows.laid_leadlight_api_ErrDeep), ("leadlight/api.ErrCycle", Rows.laid_leadlight_api_ErrCycle), ("leadlight/api.ErrValue", Rows.laid_leadlight_api_ErrValue), ("leadlight/api.ErrZero", Rows.laid_leadlight_api_ErrZero)] [.data, .data, .data, .handle, .sentinel, .sentinel, .sentinel, .sentinel, .sentinel, .sentinel, .sentinel, .sentinel, .sentinel, .sentinel, .sentinel] true :=
  Program.laidByTextLater_by_one 240 8 65 (by kernel_rfl) (by kernel_rfl) (by kernel_rfl) (by kernel_rfl) (by kernel_rfl) (by kernel_rfl) (fun _ _ => by kernel_rfl)
theorem noOwnUnsafe : Tryd.pinned.checked.prog.headLifts.contains "ownunsafe" = false := by kernel_rfl
theorem tie : Tryd.prog.laidByTextLater [("leadlight/api.ErrBound", Rows.laid_leadlight_api_ErrBound), ("leadlight/api.ErrShape", Rows.laid_leadlight_api_ErrShape), ("leadlight/api.ErrValue", Rows.laid_leadlight_api_ErrValue)] [.sentinel, .sentinel, .sentinel] true :=
  Program.laidByTextLater.sub seatTie1 ["leadlight/api.ErrBound", "leadlight/api.ErrShape", "leadlight/api.ErrValue"] (by kernel_rfl) (by kernel_rfl)
theorem shapeTurns_row_tie : Rows.shapeTurnsRow.laidByTextAt .later Tryd.pinned [.sentinel, .sentinel, .sentinel] true :=
  OpenClaim.laidByTextAt_later rfl rfl tie noOwnUnsafe
theorem shapeBoxes_row_tie : Rows.shapeBoxesRow.laidByTextAt .later Tryd.pinned [.sentinel, .sentinel, .sentinel] true :=
  OpenClaim.laidByTextAt_later rfl rfl tie noOwnUnsafe
theorem tie2 : Tryd.prog.laidByTextLater [("errors.errorType", Rows.laid_errors_errorType), ("leadlight/api.ErrText", Rows.laid_leadlight_api_ErrText), ("leadlight/api.ErrBound", Rows.laid_leadlight_api_ErrBound), ("leadlight/api.ErrShape", Rows.laid_leadlight_api_ErrShape), ("leadlight/api.ErrName", Rows.laid_leadlight_api_ErrName), ("leadlight/api.ErrNone", Rows.laid_leadlight_api_ErrNone), ("leadlight/api.ErrExist", Rows.laid_leadlight_api_ErrExist), ("leadlight/api.ErrFull", Rows.laid_leadlight_api_ErrFull), ("leadlight/api.ErrDeep", Rows.laid_leadlight_api_ErrDeep), ("leadlight/api.ErrCycle", Rows.laid_leadlight_api_ErrCycle), ("leadlight/api.ErrValue", Rows.laid_leadlight_api_ErrValue), ("leadlight/api.ErrZero", Rows.laid_leadlight_api_ErrZero)] [.handle, .sentinel, .sentinel, .sentinel, .sentinel, .sentinel, .sentinel, .sentinel, .sentinel, .sentinel, .sentinel, .sentinel] true :=
  Program.laidByTextLater.sub seatTie1 ["errors.errorType", "leadlight/api.ErrText", "leadlight/api.ErrBound", "leadlight/api.ErrShape", "leadlight/api.ErrName", "leadlight/api.ErrNone", "leadlight/api.ErrExist", "leadlight/api.ErrFull", "leadlight/api.ErrDeep", "leadlight/api.ErrCycle", "leadlight/api.ErrValue", "leadlight/api.ErrZero"] (by kernel_rfl) (by kernel_rfl)
theorem names_row_tie : Rows.namesRow.laidByTextAt .later Tryd.pinned [.handle, .sentinel, .sentinel, .sentinel, .sentinel, .sentinel, .sentinel, .sentinel, .sentinel, .sentinel, .sentinel, .sentinel] true :=
  OpenClaim.laidByTextAt_later rfl rfl tie2 noOwnUnsafe
theorem shapeHolds_row_tie : Rows.shapeHoldsRow.laidByTextAt .later Tryd.pinned [.handle, .sentinel, .sentinel, .sentinel, .sentinel, .sentinel, .sentinel, .sentinel, .sentinel, .sentinel, .sentinel, .sentinel] true :=
  OpenClaim.laidByTextAt_later rfl rfl tie2 noOwnUnsafe
theorem tie3 : Tryd.prog.laidByTextLater [("leadlight/api.ErrBound", Rows.laid_leadlight_api_ErrBound), ("leadlight/api.ErrShape", Rows.laid_leadlight_api_ErrShape), ("leadlight/api.ErrValue", Rows.laid_leadlight_api_ErrValue), ("leadlight/api.ErrZero", Rows.laid_leadlight_api_ErrZero)] [.sentinel, .sentinel, .sentinel, .sentinel] true :=
  Program.laidByTextLater.sub seatTie1 ["leadlight/api.ErrBound", "leadlight/api.ErrShape", "leadlight/api.ErrValue", "leadlight/api.ErrZero"] (by kernel_rfl) (by kernel_rfl)
theorem shapeMoves_row_tie : Rows.shapeMovesRow.laidByTextAt .later Tryd.pinned [.sentinel, .sentinel, .sentinel, .sentinel] true :=
  OpenClaim.laidByTextAt_later rfl rfl tie3 noOwnUnsafe
theorem tie4 : Tryd.prog.laidByTextLater [("math/bits.deBruijn32tab", Rows.laid_math_bits_deBruijn32tab), ("math/bits.deBruijn64tab", Rows.laid_math_bits_deBruijn64tab), ("internal/strconv.uint64pow10", Rows.laid_internal_strconv_uint64pow10), ("leadlight/api.ErrBound", Rows.laid_leadlight_api_ErrBound), ("leadlight/api.ErrShape", Rows.laid_leadlight_api_ErrShape), ("leadlight/api.ErrZero", Rows.laid_leadlight_api_ErrZero)] [.data, .data, .data, .sentinel, .sentinel, .sentinel] true :=
  Program.laidByTextLater.sub seatTie1 ["math/bits.deBruijn32tab", "math/bits.deBruijn64tab", "internal/strconv.uint64pow10", "leadlight/api.ErrBound", "leadlight/api.ErrShape", "leadlight/api.ErrZero"] (by kernel_rfl) (by kernel_rfl)
theorem fracOrders_row_tie : Rows.fracOrdersRow.laidByTextAt .later Tryd.pinned [.data, .data, .data, .sentinel, .sentinel, .sentinel] true :=
  OpenClaim.laidByTextAt_later rfl rfl tie4 noOwnUnsafe
theorem tie5 : Tryd.prog.laidByTextLater [("math/bits.deBruijn32tab", Rows.laid_math_bits_deBruijn32tab), ("math/bits.deBruijn64tab", Rows.laid_math_bits_deBruijn64tab), ("internal/strconv.uint64pow10", Rows.laid_internal_strconv_uint64pow10), ("errors.errorType", Rows.laid_errors_errorType), ("leadlight/api.ErrText", Rows.laid_leadlight_api_ErrText), ("leadlight/api.ErrBound", Rows.laid_leadlight_api_ErrBound), ("leadlight/api.ErrShape", Rows.laid_leadlight_api_ErrShape), ("leadlight/api.ErrName", Rows.laid_leadlight_api_ErrName), ("leadlight/api.ErrNone", Rows.laid_leadlight_api_ErrNone), ("leadlight/api.ErrExist", Rows.laid_leadlight_api_ErrExist), ("leadlight/api.ErrFull", Rows.laid_leadlight_api_ErrFull), ("leadlight/api.ErrDeep", Rows.laid_leadlight_api_ErrDeep), ("leadlight/api.ErrCycle", Rows.laid_leadlight_api_ErrCycle), ("leadlight/api.ErrValue", Rows.laid_leadlight_api_ErrValue), ("leadlight/api.ErrZero", Rows.laid_leadlight_api_ErrZero)] [.data, .data, .data, .handle, .sentinel, .sentinel, .sentinel, .sentinel, .sentinel, .sentinel, .sentinel, .sentinel, .sentinel, .sentinel, .sentinel] true :=
  Program.laidByTextLater.sub seatTie1 ["math/bits.deBruijn32tab", "math/bits.deBruijn64tab", "internal/strconv.uint64pow10", "errors.errorType", "leadlight/api.ErrText", "leadlight/api.ErrBound", "leadlight/api.ErrShape", "leadlight/api.ErrName", "leadlight/api.ErrNone", "leadlight/api.ErrExist", "leadlight/api.ErrFull", "leadlight/api.ErrDeep", "leadlight/api.ErrCycle", "leadlight/api.ErrValue", "leadlight/api.ErrZero"] (by kernel_rfl) (by kernel_rfl)
theorem fracSums_row_tie : Rows.fracSumsRow.laidByTextAt .later Tryd.pinned [.data, .data, .data, .handle, .sentinel, .sentinel, .sentinel, .sentinel, .sentinel, .sentinel, .sentinel, .sentinel, .sentinel, .sentinel, .sentinel] true :=
  OpenClaim.laidByTextAt_later rfl rfl tie5 noOwnUnsafe
theorem fracBack_row_tie : Rows.fracBackRow.laidByTextAt .later Tryd.pinned [.data, .data, .data, .handle, .sentinel, .sentinel, .sentinel, .sentinel, .sentinel, .sentinel, .sentinel, .sentinel, .sentinel, .sentinel, .sentinel] true :=
  OpenClaim.laidByTextAt_later rfl rfl tie5 noOwnUnsafe
theorem shapeTurnsUpto_row_tie : Rows.shapeTurnsUptoRow.laidByTextAt .later Tryd.pinned [.sentinel, .sentinel, .sentinel] true :=
  OpenClaim.laidByTextAt_later rfl rfl tie noOwnUnsafe
theorem shapeBoxesUpto_row_tie : Rows.shapeBoxesUptoRow.laidByTextAt .later Tryd.pinned [.sentinel, .sentinel, .sentinel] true :=
  OpenClaim.laidByTextAt_later rfl rfl tie noOwnUnsafe
theorem namesUpto_row_tie : Rows.namesUptoRow.laidByTextAt .later Tryd.pinned [.handle, .sentinel, .sentinel, .sentinel, .sentinel, .sentinel, .sentinel, .sentinel, .sentinel, .sentinel, .sentinel, .sentinel] true :=
  OpenClaim.laidByTextAt_later rfl rfl tie2 noOwnUnsafe
theorem shapeMovesUpto_row_tie : Rows.shapeMovesUptoRow.laidByTextAt .later Tryd.pinned [.sentinel, .sentinel, .sentinel, .sentinel] true :=
  OpenClaim.laidByTextAt_later rfl rfl tie3 noOwnUnsafe
theorem fracOrdersUpto_row_tie : Rows.fracOrdersUptoRow.laidByTextAt .later Tryd.pinned [.data, .data, .data, .sentinel, .sentinel, .sentinel] true :=
  OpenClaim.laidByTextAt_later rfl rfl tie4 noOwnUnsafe
theorem shapeHoldsUpto_row_tie : Rows.shapeHoldsUptoRow.laidByTextAt .later Tryd.pinned [.handle, .sentinel, .sentinel, .sentinel, .sentinel, .sentinel, .sentinel, .sentinel, .sentinel, .sentinel, .sentinel, .sentinel] true :=
  OpenClaim.laidByTextAt_later rfl rfl tie2 noOwnUnsafe
theorem fracSumsUpto_row_tie : Rows.fracSumsUptoRow.laidByTextAt .later Tryd.pinned [.data, .data, .data, .handle, .sentinel, .sentinel, .sentinel, .sentinel, .sentinel, .sentinel, .sentinel, .sentinel, .sentinel, .sentinel, .sentinel] true :=
  OpenClaim.laidByTextAt_later rfl rfl tie5 noOwnUnsafe
theorem fracBackUpto_row_tie : Rows.fracBackUptoRow.laidByTextAt .later Tryd.pinned [.data, .data, .data, .handle, .sentinel, .sentinel, .sentinel, .sentinel, .sentinel, .sentinel, .sentinel, .sentinel, .sentinel, .sentinel, .sentinel] true :=
  OpenClaim.laidByTextAt_later rfl rfl tie5 noOwnUnsafe
end Go.Proofs.YthpicnajemnfdaaDoor
