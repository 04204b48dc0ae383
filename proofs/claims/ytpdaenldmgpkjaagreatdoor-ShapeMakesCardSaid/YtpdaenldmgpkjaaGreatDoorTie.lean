/-
  DERIVED. GIVEN WITH THE SEED: THE PROGRAM's TIES (one call each: nine closed facts by the kernel) AND EACH ROW's TIE, after the 31st guide's Derived/Test/Toyas{Tie, Card}.lean. No idea stands in it: it is a product of the set-up. Laid BY PROGRAM, IN A SANDBOX (cutbox-door.mjs). By AI agents, Wed Nov 11 2026. No macro, syntax, notation, axiom, sorry.
-/
import Derived.Test.YtpdaenldmgpkjaaGreatDoorRows
import Derived.LaidByTextLater
import Derived.SevenTiedAt
import Derived.LaidSub
import Derived.LaidOnce
namespace Go.Proofs.YtpdaenldmgpkjaaGreatDoor
open Go
set_option maxRecDepth 100000
theorem seatTie1 : Tryz.prog.laidByTextLater [("math/bits.deBruijn32tab", Rows.laid_math_bits_deBruijn32tab), ("math/bits.deBruijn64tab", Rows.laid_math_bits_deBruijn64tab), ("internal/strconv.uint64pow10", Rows.laid_internal_strconv_uint64pow10), ("unicode/utf8.acceptRanges", Rows.laid_unicode_utf8_acceptRanges), ("errors.errorType", Rows.laid_errors_errorType), ("leadlight/api.ErrText", Rows.laid_leadlight_api_ErrText), ("leadlight/api.ErrBound", Rows.laid_leadlight_api_ErrBound), ("leadlight/api.ErrShape", Rows.laid_leadlight_api_ErrShape), ("leadlight/api.ErrName", Rows.laid_leadlight_api_ErrName), ("leadlight/api.ErrNone", Rows.laid_leadlight_api_ErrNone), ("leadlight/api.ErrExist", Rows.laid_leadlight_api_ErrExist), ("leadlight/api.ErrFull", Rows.laid_leadlight_api_ErrFull), ("leadlight/api.ErrDeep", Rows.laid_leadlight_api_ErrDeep), ("leadlight/api.ErrCycle", Rows.laid_leadlight_api_ErrCycle), ("leadlight/api.ErrValue", Rows.laid_leadlight_api_ErrValue), ("leadlight/api.ErrZero", Rows.laid_leadlight_api_ErrZero), ("strconv.ErrRange", Rows.laid_strconv_ErrRange), ("strconv.ErrSyntax", Rows.laid_strconv_ErrSyntax)] [.data, .data, .data, .data, .handle, .sentinel, .sentinel, .sentinel, .sentinel, .sentinel, .sentinel, .sentinel, .sentinel, .sentinel, .sentinel, .sentinel, .sentinel, .sentinel] true :=
  Program.laidByTextLater_by_one 288 8 65 (by kernel_rfl) (by kernel_rfl) (by kernel_rfl) (by kernel_rfl) (by kernel_rfl) (by kernel_rfl) (fun _ _ => by kernel_rfl)
theorem pin_laid_unicode_utf8_first : Tryz.pinned.checked.prog.pinnedFits "unicode/utf8.first" = true := by kernel_rfl
theorem noOwnUnsafe : Tryz.pinned.checked.prog.headLifts.contains "ownunsafe" = false := by kernel_rfl
theorem tie : Tryz.prog.laidByTextLater [("leadlight/api.ErrText", Rows.laid_leadlight_api_ErrText), ("leadlight/api.ErrBound", Rows.laid_leadlight_api_ErrBound), ("leadlight/api.ErrName", Rows.laid_leadlight_api_ErrName), ("leadlight/api.ErrExist", Rows.laid_leadlight_api_ErrExist), ("leadlight/api.ErrFull", Rows.laid_leadlight_api_ErrFull), ("leadlight/api.ErrDeep", Rows.laid_leadlight_api_ErrDeep), ("leadlight/api.ErrValue", Rows.laid_leadlight_api_ErrValue)] [.sentinel, .sentinel, .sentinel, .sentinel, .sentinel, .sentinel, .sentinel] true :=
  Program.laidByTextLater.sub seatTie1 ["leadlight/api.ErrText", "leadlight/api.ErrBound", "leadlight/api.ErrName", "leadlight/api.ErrExist", "leadlight/api.ErrFull", "leadlight/api.ErrDeep", "leadlight/api.ErrValue"] (by kernel_rfl) (by kernel_rfl)
theorem markApart_row_tie : Rows.markApartRow.laidByTextAt .later Tryz.pinned [.sentinel, .sentinel, .sentinel, .sentinel, .sentinel, .sentinel, .sentinel] true :=
  OpenClaim.laidByTextAt_later rfl rfl tie noOwnUnsafe
theorem tie2 : Tryz.prog.laidByTextLater [("errors.errorType", Rows.laid_errors_errorType), ("leadlight/api.ErrText", Rows.laid_leadlight_api_ErrText), ("leadlight/api.ErrBound", Rows.laid_leadlight_api_ErrBound), ("leadlight/api.ErrShape", Rows.laid_leadlight_api_ErrShape), ("leadlight/api.ErrName", Rows.laid_leadlight_api_ErrName), ("leadlight/api.ErrNone", Rows.laid_leadlight_api_ErrNone), ("leadlight/api.ErrExist", Rows.laid_leadlight_api_ErrExist), ("leadlight/api.ErrFull", Rows.laid_leadlight_api_ErrFull), ("leadlight/api.ErrDeep", Rows.laid_leadlight_api_ErrDeep), ("leadlight/api.ErrCycle", Rows.laid_leadlight_api_ErrCycle), ("leadlight/api.ErrValue", Rows.laid_leadlight_api_ErrValue), ("leadlight/api.ErrZero", Rows.laid_leadlight_api_ErrZero)] [.handle, .sentinel, .sentinel, .sentinel, .sentinel, .sentinel, .sentinel, .sentinel, .sentinel, .sentinel, .sentinel, .sentinel] true :=
  Program.laidByTextLater.sub seatTie1 ["errors.errorType", "leadlight/api.ErrText", "leadlight/api.ErrBound", "leadlight/api.ErrShape", "leadlight/api.ErrName", "leadlight/api.ErrNone", "leadlight/api.ErrExist", "leadlight/api.ErrFull", "leadlight/api.ErrDeep", "leadlight/api.ErrCycle", "leadlight/api.ErrValue", "leadlight/api.ErrZero"] (by kernel_rfl) (by kernel_rfl)
theorem markTexts_row_tie : Rows.markTextsRow.laidByTextAt .later Tryz.pinned [.handle, .sentinel, .sentinel, .sentinel, .sentinel, .sentinel, .sentinel, .sentinel, .sentinel, .sentinel, .sentinel, .sentinel] true :=
  OpenClaim.laidByTextAt_later rfl rfl tie2 noOwnUnsafe
theorem markReads_row_tie : Rows.markReadsRow.laidByTextAt .later Tryz.pinned [.handle, .sentinel, .sentinel, .sentinel, .sentinel, .sentinel, .sentinel, .sentinel, .sentinel, .sentinel, .sentinel, .sentinel] true :=
  OpenClaim.laidByTextAt_later rfl rfl tie2 noOwnUnsafe
theorem fits3 : Tryz.pinned.checked.prog.listedFits [("math/bits.deBruijn32tab", Rows.laid_math_bits_deBruijn32tab), ("math/bits.deBruijn64tab", Rows.laid_math_bits_deBruijn64tab), ("internal/strconv.uint64pow10", Rows.laid_internal_strconv_uint64pow10), ("unicode/utf8.acceptRanges", Rows.laid_unicode_utf8_acceptRanges), ("errors.errorType", Rows.laid_errors_errorType), ("leadlight/api.ErrText", Rows.laid_leadlight_api_ErrText), ("leadlight/api.ErrBound", Rows.laid_leadlight_api_ErrBound), ("leadlight/api.ErrShape", Rows.laid_leadlight_api_ErrShape), ("leadlight/api.ErrName", Rows.laid_leadlight_api_ErrName), ("leadlight/api.ErrNone", Rows.laid_leadlight_api_ErrNone), ("leadlight/api.ErrExist", Rows.laid_leadlight_api_ErrExist), ("leadlight/api.ErrFull", Rows.laid_leadlight_api_ErrFull), ("leadlight/api.ErrDeep", Rows.laid_leadlight_api_ErrDeep), ("leadlight/api.ErrCycle", Rows.laid_leadlight_api_ErrCycle), ("leadlight/api.ErrValue", Rows.laid_leadlight_api_ErrValue), ("leadlight/api.ErrZero", Rows.laid_leadlight_api_ErrZero), ("strconv.ErrRange", Rows.laid_strconv_ErrRange), ("strconv.ErrSyntax", Rows.laid_strconv_ErrSyntax), ("unicode/utf8.first", Rows.laid_unicode_utf8_first)] = true := by
  unfold Program.listedFits
  rw [noOwnUnsafe]
  kernel_rfl
theorem tie3 : Tryz.prog.laidByTextLater [("math/bits.deBruijn32tab", Rows.laid_math_bits_deBruijn32tab), ("math/bits.deBruijn64tab", Rows.laid_math_bits_deBruijn64tab), ("internal/strconv.uint64pow10", Rows.laid_internal_strconv_uint64pow10), ("unicode/utf8.acceptRanges", Rows.laid_unicode_utf8_acceptRanges), ("errors.errorType", Rows.laid_errors_errorType), ("leadlight/api.ErrText", Rows.laid_leadlight_api_ErrText), ("leadlight/api.ErrBound", Rows.laid_leadlight_api_ErrBound), ("leadlight/api.ErrShape", Rows.laid_leadlight_api_ErrShape), ("leadlight/api.ErrName", Rows.laid_leadlight_api_ErrName), ("leadlight/api.ErrNone", Rows.laid_leadlight_api_ErrNone), ("leadlight/api.ErrExist", Rows.laid_leadlight_api_ErrExist), ("leadlight/api.ErrFull", Rows.laid_leadlight_api_ErrFull), ("leadlight/api.ErrDeep", Rows.laid_leadlight_api_ErrDeep), ("leadlight/api.ErrCycle", Rows.laid_leadlight_api_ErrCycle), ("leadlight/api.ErrValue", Rows.laid_leadlight_api_ErrValue), ("leadlight/api.ErrZero", Rows.laid_leadlight_api_ErrZero), ("strconv.ErrRange", Rows.laid_strconv_ErrRange), ("strconv.ErrSyntax", Rows.laid_strconv_ErrSyntax)] [.data, .data, .data, .data, .handle, .sentinel, .sentinel, .sentinel, .sentinel, .sentinel, .sentinel, .sentinel, .sentinel, .sentinel, .sentinel, .sentinel, .sentinel, .sentinel] true :=
  Program.laidByTextLater.sub seatTie1 ["math/bits.deBruijn32tab", "math/bits.deBruijn64tab", "internal/strconv.uint64pow10", "unicode/utf8.acceptRanges", "errors.errorType", "leadlight/api.ErrText", "leadlight/api.ErrBound", "leadlight/api.ErrShape", "leadlight/api.ErrName", "leadlight/api.ErrNone", "leadlight/api.ErrExist", "leadlight/api.ErrFull", "leadlight/api.ErrDeep", "leadlight/api.ErrCycle", "leadlight/api.ErrValue", "leadlight/api.ErrZero", "strconv.ErrRange", "strconv.ErrSyntax"] (by kernel_rfl) (by kernel_rfl)
theorem shapeMakes_row_tie : Rows.shapeMakesRow.laidByTextAt .later Tryz.pinned [.data, .data, .data, .data, .handle, .sentinel, .sentinel, .sentinel, .sentinel, .sentinel, .sentinel, .sentinel, .sentinel, .sentinel, .sentinel, .sentinel, .sentinel, .sentinel, .pinned] true :=
  OpenClaim.laidByTextAt_pinned rfl rfl tie3 rfl rfl rfl rfl (fun y hy _e => by
    simp only [Rows.shapeMakesRow, List.zip_cons_cons, List.zip_nil_right, List.mem_cons, List.mem_nil_iff, or_false] at hy
    rcases hy with rfl | rfl | rfl | rfl | rfl | rfl | rfl | rfl | rfl | rfl | rfl | rfl | rfl | rfl | rfl | rfl | rfl | rfl | rfl
    · cases _e
    · cases _e
    · cases _e
    · cases _e
    · cases _e
    · cases _e
    · cases _e
    · cases _e
    · cases _e
    · cases _e
    · cases _e
    · cases _e
    · cases _e
    · cases _e
    · cases _e
    · cases _e
    · cases _e
    · cases _e
    · exact ⟨pin_laid_unicode_utf8_first, by kernel_rfl⟩) fits3
theorem markApartUpto_row_tie : Rows.markApartUptoRow.laidByTextAt .later Tryz.pinned [.sentinel, .sentinel, .sentinel, .sentinel, .sentinel, .sentinel, .sentinel] true :=
  OpenClaim.laidByTextAt_later rfl rfl tie noOwnUnsafe
theorem markTextsUpto_row_tie : Rows.markTextsUptoRow.laidByTextAt .later Tryz.pinned [.handle, .sentinel, .sentinel, .sentinel, .sentinel, .sentinel, .sentinel, .sentinel, .sentinel, .sentinel, .sentinel, .sentinel] true :=
  OpenClaim.laidByTextAt_later rfl rfl tie2 noOwnUnsafe
theorem markReadsUpto_row_tie : Rows.markReadsUptoRow.laidByTextAt .later Tryz.pinned [.handle, .sentinel, .sentinel, .sentinel, .sentinel, .sentinel, .sentinel, .sentinel, .sentinel, .sentinel, .sentinel, .sentinel] true :=
  OpenClaim.laidByTextAt_later rfl rfl tie2 noOwnUnsafe
theorem shapeMakesUpto_row_tie : Rows.shapeMakesUptoRow.laidByTextAt .later Tryz.pinned [.data, .data, .data, .data, .handle, .sentinel, .sentinel, .sentinel, .sentinel, .sentinel, .sentinel, .sentinel, .sentinel, .sentinel, .sentinel, .sentinel, .sentinel, .sentinel, .pinned] true :=
  OpenClaim.laidByTextAt_pinned rfl rfl tie3 rfl rfl rfl rfl (fun y hy _e => by
    simp only [Rows.shapeMakesUptoRow, List.zip_cons_cons, List.zip_nil_right, List.mem_cons, List.mem_nil_iff, or_false] at hy
    rcases hy with rfl | rfl | rfl | rfl | rfl | rfl | rfl | rfl | rfl | rfl | rfl | rfl | rfl | rfl | rfl | rfl | rfl | rfl | rfl
    · cases _e
    · cases _e
    · cases _e
    · cases _e
    · cases _e
    · cases _e
    · cases _e
    · cases _e
    · cases _e
    · cases _e
    · cases _e
    · cases _e
    · cases _e
    · cases _e
    · cases _e
    · cases _e
    · cases _e
    · cases _e
    · exact ⟨pin_laid_unicode_utf8_first, by kernel_rfl⟩) fits3
end Go.Proofs.YtpdaenldmgpkjaaGreatDoor
