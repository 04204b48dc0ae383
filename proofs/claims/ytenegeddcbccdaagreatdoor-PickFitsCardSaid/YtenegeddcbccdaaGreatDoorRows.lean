/-
  NARROWER THAN 'FOR EVERY INPUT', by the rows' own cells (each row's printed sentence says how): DocActs: loops, laid · PickFits: loops, laid · StyleTells: loops, laid.
  DERIVED. THE GIVEN ROWS OF THIS SEAT. 3 by the template 'for every input the law returns true; each argument reads behind the call as it read before'; 0 by the template 'total and deterministic' (their statements: YtenegeddcbccdaaGreatDoorTotals.lean).
  GIVEN WITH THE SEED: the statements are not yours to turn. If you find one false, say at which input.
  Laid BY PROGRAM, IN A SANDBOX (cutbox-rows.mjs): the forced cells as the released guide's own fill.sh prints them over the translation 299e4fd70684300c… (all of the seat's roots in one cut). By AI agents, Wed Nov 11 2026. No macro, syntax, notation, axiom, sorry.
-/
import Derived.Test.YtenegeddcbccdaaGreatDoorChecked
import GoSem.PinnedTables
import GoSem.Claim
import GoSem.ClaimJoined
import GoSem.ClaimMapViews
import Derived.JoinedTies
import Derived.KernelRfl
namespace Go.Proofs.YtenegeddcbccdaaGreatDoor
/- THE CELL 'sum', in the pinned program and in every row, IS THE sha256 OF THE DUMP (.gsa) THAT YtenegeddcbccdaaGreatDoorProg.lean LOADS. Nothing in Lean hashes anything: it is a label: what it is worth is what the hold of that sum in a sandbox is worth. -/
noncomputable def Tryz.pinned : Pinned := { name := "ytenegeddcbccdaagreatdoor", sum := "299e4fd70684300c9b86f50657981c69d9e06991dbccb08f2d68e1a9d1f94f77", checked := Tryz.checked }
namespace Rows
def none {H : Type} : Left H := { results := [], args := [] }

/- WHAT THE LISTED PACKAGE-LEVEL VARIABLES READ AS WHEN THE CALL BEGINS. Each datum BY PROGRAM (the guide's laid-datum.mjs) off the statement by which the dump's own 'gosem.cut.vars' lays the variable. In a bare row this is a premise. The card (YtenegeddcbccdaaGreatDoorCards.lean) ties it to the program's text. -/
def laid_errors_errorType {H : Type} : DataW H := .iface "internal/reflectlite.rtype" (.agg [.ptr (.lit (.string [101, 114, 114, 111, 114]))])
def laid_leadlight_api_ErrText {H : Type} : DataW H := .iface "*errors.errorString" (.ptr (.agg [.lit (.string [108, 101, 97, 100, 108, 105, 103, 104, 116, 58, 32, 116, 101, 120, 116])]))
def laid_leadlight_api_ErrBound {H : Type} : DataW H := .iface "*errors.errorString" (.ptr (.agg [.lit (.string [108, 101, 97, 100, 108, 105, 103, 104, 116, 58, 32, 98, 111, 117, 110, 100])]))
def laid_leadlight_api_ErrShape {H : Type} : DataW H := .iface "*errors.errorString" (.ptr (.agg [.lit (.string [108, 101, 97, 100, 108, 105, 103, 104, 116, 58, 32, 115, 104, 97, 112, 101])]))
def laid_leadlight_api_ErrName {H : Type} : DataW H := .iface "*errors.errorString" (.ptr (.agg [.lit (.string [108, 101, 97, 100, 108, 105, 103, 104, 116, 58, 32, 110, 97, 109, 101])]))
def laid_leadlight_api_ErrNone {H : Type} : DataW H := .iface "*errors.errorString" (.ptr (.agg [.lit (.string [108, 101, 97, 100, 108, 105, 103, 104, 116, 58, 32, 110, 111, 110, 101])]))
def laid_leadlight_api_ErrExist {H : Type} : DataW H := .iface "*errors.errorString" (.ptr (.agg [.lit (.string [108, 101, 97, 100, 108, 105, 103, 104, 116, 58, 32, 101, 120, 105, 115, 116])]))
def laid_leadlight_api_ErrFull {H : Type} : DataW H := .iface "*errors.errorString" (.ptr (.agg [.lit (.string [108, 101, 97, 100, 108, 105, 103, 104, 116, 58, 32, 102, 117, 108, 108])]))
def laid_leadlight_api_ErrDeep {H : Type} : DataW H := .iface "*errors.errorString" (.ptr (.agg [.lit (.string [108, 101, 97, 100, 108, 105, 103, 104, 116, 58, 32, 100, 101, 101, 112])]))
def laid_leadlight_api_ErrCycle {H : Type} : DataW H := .iface "*errors.errorString" (.ptr (.agg [.lit (.string [108, 101, 97, 100, 108, 105, 103, 104, 116, 58, 32, 99, 121, 99, 108, 101])]))
def laid_leadlight_api_ErrValue {H : Type} : DataW H := .iface "*errors.errorString" (.ptr (.agg [.lit (.string [108, 101, 97, 100, 108, 105, 103, 104, 116, 58, 32, 118, 97, 108, 117, 101])]))
def laid_leadlight_api_ErrZero {H : Type} : DataW H := .iface "*errors.errorString" (.ptr (.agg [.lit (.string [108, 101, 97, 100, 108, 105, 103, 104, 116, 58, 32, 122, 101, 114, 111])]))
def laid_unicode_utf8_acceptRanges {H : Type} : DataW H := .agg [.agg [.lit (.int .u8 128), .lit (.int .u8 191)], .agg [.lit (.int .u8 160), .lit (.int .u8 191)], .agg [.lit (.int .u8 128), .lit (.int .u8 159)], .agg [.lit (.int .u8 144), .lit (.int .u8 191)], .agg [.lit (.int .u8 128), .lit (.int .u8 143)], .agg [.lit (.int .u8 0), .lit (.int .u8 0)], .agg [.lit (.int .u8 0), .lit (.int .u8 0)], .agg [.lit (.int .u8 0), .lit (.int .u8 0)], .agg [.lit (.int .u8 0), .lit (.int .u8 0)], .agg [.lit (.int .u8 0), .lit (.int .u8 0)], .agg [.lit (.int .u8 0), .lit (.int .u8 0)], .agg [.lit (.int .u8 0), .lit (.int .u8 0)], .agg [.lit (.int .u8 0), .lit (.int .u8 0)], .agg [.lit (.int .u8 0), .lit (.int .u8 0)], .agg [.lit (.int .u8 0), .lit (.int .u8 0)], .agg [.lit (.int .u8 0), .lit (.int .u8 0)]]
/-- One of Go's own tables, pinned by name: the form's constant. -/
def laid_unicode_utf8_first : DataW Unit := Go.Pinned.utf8First

/-- 'leadlightlaw1.DocActs': WHATEVER THE INPUT: true; the input reads as it did. -/
def docActsSpec : ChangeSpec := { name := "docActs", fn := fun _ => fun
  | [d1, d2] => { results := [.lit (.bool true)], args := [d1, d2] }
  | _ => none }
def docActsRow : OpenClaim := { program := "ytenegeddcbccdaagreatdoor", sum := "299e4fd70684300c9b86f50657981c69d9e06991dbccb08f2d68e1a9d1f94f77", func := "leadlight/leadlightlaw1.DocActs", spec := "docActs", inPlace := ["slices.overlaps[int]", "internal/reflectlite.ValueOf", "(internal/reflectlite.Value).Type", "(internal/reflectlite.Value).IsNil", "internal/reflectlite.TypeOf", "(internal/reflectlite.Value).Elem", "(internal/reflectlite.Value).Set"], unfollowed := true, recurses := true, named := ["leadlight/api.ErrDeep", "leadlight/api.ErrFull", "leadlight/api.ErrName", "leadlight/api.ErrExist", "leadlight/api.ErrValue", "leadlight/api.ErrNone", "leadlight/api.ErrBound", "leadlight/api.ErrText", "leadlight/api.ErrShape", "leadlight/api.ErrCycle", "leadlight/api.ErrZero", "errors.errorType"], loops := true, apart := false, laid := [("errors.errorType", laid_errors_errorType), ("leadlight/api.ErrText", laid_leadlight_api_ErrText), ("leadlight/api.ErrBound", laid_leadlight_api_ErrBound), ("leadlight/api.ErrShape", laid_leadlight_api_ErrShape), ("leadlight/api.ErrName", laid_leadlight_api_ErrName), ("leadlight/api.ErrNone", laid_leadlight_api_ErrNone), ("leadlight/api.ErrExist", laid_leadlight_api_ErrExist), ("leadlight/api.ErrFull", laid_leadlight_api_ErrFull), ("leadlight/api.ErrDeep", laid_leadlight_api_ErrDeep), ("leadlight/api.ErrCycle", laid_leadlight_api_ErrCycle), ("leadlight/api.ErrValue", laid_leadlight_api_ErrValue), ("leadlight/api.ErrZero", laid_leadlight_api_ErrZero)] }
def DocActsSaid : Prop := docActsRow.holds Tryz.pinned (OpenSpec.ofChange docActsSpec)

/-- ITS FALSE NEIGHBOUR: 'it returns false'. Refute it at one input. -/
def docActsWrong : ChangeSpec := { name := "docActs", fn := fun _ => fun
  | [d1, d2] => { results := [.lit (.bool false)], args := [d1, d2] }
  | _ => none }
def DocActsWrongFalsely : Prop := docActsRow.holds Tryz.pinned (OpenSpec.ofChange docActsWrong)

/-- 'leadlightlaw1.PickFits': WHATEVER THE INPUT: true; the input reads as it did. -/
def pickFitsSpec : ChangeSpec := { name := "pickFits", fn := fun _ => fun
  | [d1, d2] => { results := [.lit (.bool true)], args := [d1, d2] }
  | _ => none }
def pickFitsRow : OpenClaim := { program := "ytenegeddcbccdaagreatdoor", sum := "299e4fd70684300c9b86f50657981c69d9e06991dbccb08f2d68e1a9d1f94f77", func := "leadlight/leadlightlaw1.PickFits", spec := "pickFits", inPlace := ["internal/bytealg.CountString", "internal/bytealg.IndexByteString", "internal/bytealg.IndexString", "internal/reflectlite.ValueOf", "(internal/reflectlite.Value).Type", "(internal/reflectlite.Value).IsNil", "internal/reflectlite.TypeOf", "(internal/reflectlite.Value).Elem", "(internal/reflectlite.Value).Set"], unfollowed := true, recurses := true, named := ["leadlight/api.ErrText", "unicode/utf8.first", "unicode/utf8.acceptRanges", "internal/bytealg.MaxLen", "leadlight/api.ErrBound", "leadlight/api.ErrShape", "leadlight/api.ErrName", "leadlight/api.ErrNone", "leadlight/api.ErrExist", "leadlight/api.ErrFull", "leadlight/api.ErrDeep", "leadlight/api.ErrCycle", "leadlight/api.ErrValue", "leadlight/api.ErrZero", "errors.errorType"], loops := true, apart := false, laid := [("unicode/utf8.acceptRanges", laid_unicode_utf8_acceptRanges), ("errors.errorType", laid_errors_errorType), ("leadlight/api.ErrText", laid_leadlight_api_ErrText), ("leadlight/api.ErrBound", laid_leadlight_api_ErrBound), ("leadlight/api.ErrShape", laid_leadlight_api_ErrShape), ("leadlight/api.ErrName", laid_leadlight_api_ErrName), ("leadlight/api.ErrNone", laid_leadlight_api_ErrNone), ("leadlight/api.ErrExist", laid_leadlight_api_ErrExist), ("leadlight/api.ErrFull", laid_leadlight_api_ErrFull), ("leadlight/api.ErrDeep", laid_leadlight_api_ErrDeep), ("leadlight/api.ErrCycle", laid_leadlight_api_ErrCycle), ("leadlight/api.ErrValue", laid_leadlight_api_ErrValue), ("leadlight/api.ErrZero", laid_leadlight_api_ErrZero), ("unicode/utf8.first", laid_unicode_utf8_first)] }
def PickFitsSaid : Prop := pickFitsRow.holds Tryz.pinned (OpenSpec.ofChange pickFitsSpec)

/-- ITS FALSE NEIGHBOUR: 'it returns false'. Refute it at one input. -/
def pickFitsWrong : ChangeSpec := { name := "pickFits", fn := fun _ => fun
  | [d1, d2] => { results := [.lit (.bool false)], args := [d1, d2] }
  | _ => none }
def PickFitsWrongFalsely : Prop := pickFitsRow.holds Tryz.pinned (OpenSpec.ofChange pickFitsWrong)

/-- 'leadlightlaw2.StyleTells': WHATEVER THE INPUT: true; the input reads as it did. -/
def styleTellsSpec : ChangeSpec := { name := "styleTells", fn := fun _ => fun
  | [d1, d2, d3] => { results := [.lit (.bool true)], args := [d1, d2, d3] }
  | _ => none }
def styleTellsRow : OpenClaim := { program := "ytenegeddcbccdaagreatdoor", sum := "299e4fd70684300c9b86f50657981c69d9e06991dbccb08f2d68e1a9d1f94f77", func := "leadlight/leadlightlaw2.StyleTells", spec := "styleTells", inPlace := ["internal/bytealg.CountString", "internal/bytealg.IndexByteString", "internal/bytealg.IndexString", "internal/reflectlite.ValueOf", "(internal/reflectlite.Value).Type", "(internal/reflectlite.Value).IsNil", "internal/reflectlite.TypeOf", "(internal/reflectlite.Value).Elem", "(internal/reflectlite.Value).Set"], unfollowed := true, recurses := true, named := ["leadlight/api.ErrBound", "leadlight/api.ErrText", "leadlight/api.ErrFull", "unicode/utf8.first", "unicode/utf8.acceptRanges", "internal/bytealg.MaxLen", "leadlight/api.ErrDeep", "leadlight/api.ErrName", "leadlight/api.ErrExist", "leadlight/api.ErrValue", "leadlight/api.ErrShape", "leadlight/api.ErrNone", "leadlight/api.ErrCycle", "leadlight/api.ErrZero", "errors.errorType"], loops := true, apart := false, laid := [("unicode/utf8.acceptRanges", laid_unicode_utf8_acceptRanges), ("errors.errorType", laid_errors_errorType), ("leadlight/api.ErrText", laid_leadlight_api_ErrText), ("leadlight/api.ErrBound", laid_leadlight_api_ErrBound), ("leadlight/api.ErrShape", laid_leadlight_api_ErrShape), ("leadlight/api.ErrName", laid_leadlight_api_ErrName), ("leadlight/api.ErrNone", laid_leadlight_api_ErrNone), ("leadlight/api.ErrExist", laid_leadlight_api_ErrExist), ("leadlight/api.ErrFull", laid_leadlight_api_ErrFull), ("leadlight/api.ErrDeep", laid_leadlight_api_ErrDeep), ("leadlight/api.ErrCycle", laid_leadlight_api_ErrCycle), ("leadlight/api.ErrValue", laid_leadlight_api_ErrValue), ("leadlight/api.ErrZero", laid_leadlight_api_ErrZero), ("unicode/utf8.first", laid_unicode_utf8_first)] }
def StyleTellsSaid : Prop := styleTellsRow.holds Tryz.pinned (OpenSpec.ofChange styleTellsSpec)

/-- ITS FALSE NEIGHBOUR: 'it returns false'. Refute it at one input. -/
def styleTellsWrong : ChangeSpec := { name := "styleTells", fn := fun _ => fun
  | [d1, d2, d3] => { results := [.lit (.bool false)], args := [d1, d2, d3] }
  | _ => none }
def StyleTellsWrongFalsely : Prop := styleTellsRow.holds Tryz.pinned (OpenSpec.ofChange styleTellsWrong)

/- THE SECOND FORM. 'bulk': how many values and letters a reading holds, each counted each time it is reached (what is shared counts as often as it is met; a slice's spare places count too). A statement '..UptoSaid' is the law's where the arguments, and the package variables that the reading takes, are together of bulk at most 1048576: NARROWER than '..Said'. Prove '..Said' where nothing that the law and all that it calls make is longer than what came in: it says more and counts as full. Else prove '..UptoSaid'. A law counts once. -/
mutual
def uptoBulk {H : Type} : DataW H → Nat
  | .lit (.string bytes) => bytes.length + 1
  | .lit _ => 1
  | .nil => 1
  | .ptr d => uptoBulk d + 1
  | .slice elems spare => uptoBulkAll elems + uptoBulkAll spare + 1
  | .agg parts => uptoBulkAll parts + 1
  | .iface _ d => uptoBulk d + 1
  | .map entries => uptoBulkEntries entries + 1
  | .held _ => 1
def uptoBulkAll {H : Type} : List (DataW H) → Nat
  | [] => 0
  | d :: r => uptoBulk d + uptoBulkAll r
def uptoBulkEntries {H : Type} : List (Lit × DataW H) → Nat
  | [] => 0
  | x :: r => uptoBulkEntry x + uptoBulkEntries r
def uptoBulkEntry {H : Type} : Lit × DataW H → Nat
  | (.string bytes, d) => bytes.length + uptoBulk d + 1
  | (_, d) => uptoBulk d + 1
 end
def uptoSmall : (H : Type) → List (DataW H) → Bool := fun _ ds => decide (uptoBulkAll ds ≤ 1048576)
def OpenSpec.upto (s : _root_.Go.ChangeSpec) : _root_.Go.OpenSpec := { _root_.Go.OpenSpec.ofChange s with cond := some uptoSmall }

/-- 'leadlightlaw1.DocActs', WHERE WHAT IT READS IS OF BULK AT MOST 1048576: true; the input reads as it did. -/
def docActsUptoRow : OpenClaim := { program := "ytenegeddcbccdaagreatdoor", sum := "299e4fd70684300c9b86f50657981c69d9e06991dbccb08f2d68e1a9d1f94f77", func := "leadlight/leadlightlaw1.DocActs", spec := "docActs", inPlace := ["slices.overlaps[int]", "internal/reflectlite.ValueOf", "(internal/reflectlite.Value).Type", "(internal/reflectlite.Value).IsNil", "internal/reflectlite.TypeOf", "(internal/reflectlite.Value).Elem", "(internal/reflectlite.Value).Set"], unfollowed := true, recurses := true, named := ["leadlight/api.ErrDeep", "leadlight/api.ErrFull", "leadlight/api.ErrName", "leadlight/api.ErrExist", "leadlight/api.ErrValue", "leadlight/api.ErrNone", "leadlight/api.ErrBound", "leadlight/api.ErrText", "leadlight/api.ErrShape", "leadlight/api.ErrCycle", "leadlight/api.ErrZero", "errors.errorType"], loops := true, apart := false, laid := [("errors.errorType", laid_errors_errorType), ("leadlight/api.ErrText", laid_leadlight_api_ErrText), ("leadlight/api.ErrBound", laid_leadlight_api_ErrBound), ("leadlight/api.ErrShape", laid_leadlight_api_ErrShape), ("leadlight/api.ErrName", laid_leadlight_api_ErrName), ("leadlight/api.ErrNone", laid_leadlight_api_ErrNone), ("leadlight/api.ErrExist", laid_leadlight_api_ErrExist), ("leadlight/api.ErrFull", laid_leadlight_api_ErrFull), ("leadlight/api.ErrDeep", laid_leadlight_api_ErrDeep), ("leadlight/api.ErrCycle", laid_leadlight_api_ErrCycle), ("leadlight/api.ErrValue", laid_leadlight_api_ErrValue), ("leadlight/api.ErrZero", laid_leadlight_api_ErrZero)], narrowed := true }
def DocActsUptoSaid : Prop := docActsUptoRow.holds Tryz.pinned (OpenSpec.upto docActsSpec)

/-- 'leadlightlaw1.PickFits', WHERE WHAT IT READS IS OF BULK AT MOST 1048576: true; the input reads as it did. -/
def pickFitsUptoRow : OpenClaim := { program := "ytenegeddcbccdaagreatdoor", sum := "299e4fd70684300c9b86f50657981c69d9e06991dbccb08f2d68e1a9d1f94f77", func := "leadlight/leadlightlaw1.PickFits", spec := "pickFits", inPlace := ["internal/bytealg.CountString", "internal/bytealg.IndexByteString", "internal/bytealg.IndexString", "internal/reflectlite.ValueOf", "(internal/reflectlite.Value).Type", "(internal/reflectlite.Value).IsNil", "internal/reflectlite.TypeOf", "(internal/reflectlite.Value).Elem", "(internal/reflectlite.Value).Set"], unfollowed := true, recurses := true, named := ["leadlight/api.ErrText", "unicode/utf8.first", "unicode/utf8.acceptRanges", "internal/bytealg.MaxLen", "leadlight/api.ErrBound", "leadlight/api.ErrShape", "leadlight/api.ErrName", "leadlight/api.ErrNone", "leadlight/api.ErrExist", "leadlight/api.ErrFull", "leadlight/api.ErrDeep", "leadlight/api.ErrCycle", "leadlight/api.ErrValue", "leadlight/api.ErrZero", "errors.errorType"], loops := true, apart := false, laid := [("unicode/utf8.acceptRanges", laid_unicode_utf8_acceptRanges), ("errors.errorType", laid_errors_errorType), ("leadlight/api.ErrText", laid_leadlight_api_ErrText), ("leadlight/api.ErrBound", laid_leadlight_api_ErrBound), ("leadlight/api.ErrShape", laid_leadlight_api_ErrShape), ("leadlight/api.ErrName", laid_leadlight_api_ErrName), ("leadlight/api.ErrNone", laid_leadlight_api_ErrNone), ("leadlight/api.ErrExist", laid_leadlight_api_ErrExist), ("leadlight/api.ErrFull", laid_leadlight_api_ErrFull), ("leadlight/api.ErrDeep", laid_leadlight_api_ErrDeep), ("leadlight/api.ErrCycle", laid_leadlight_api_ErrCycle), ("leadlight/api.ErrValue", laid_leadlight_api_ErrValue), ("leadlight/api.ErrZero", laid_leadlight_api_ErrZero), ("unicode/utf8.first", laid_unicode_utf8_first)], narrowed := true }
def PickFitsUptoSaid : Prop := pickFitsUptoRow.holds Tryz.pinned (OpenSpec.upto pickFitsSpec)

/-- 'leadlightlaw2.StyleTells', WHERE WHAT IT READS IS OF BULK AT MOST 1048576: true; the input reads as it did. -/
def styleTellsUptoRow : OpenClaim := { program := "ytenegeddcbccdaagreatdoor", sum := "299e4fd70684300c9b86f50657981c69d9e06991dbccb08f2d68e1a9d1f94f77", func := "leadlight/leadlightlaw2.StyleTells", spec := "styleTells", inPlace := ["internal/bytealg.CountString", "internal/bytealg.IndexByteString", "internal/bytealg.IndexString", "internal/reflectlite.ValueOf", "(internal/reflectlite.Value).Type", "(internal/reflectlite.Value).IsNil", "internal/reflectlite.TypeOf", "(internal/reflectlite.Value).Elem", "(internal/reflectlite.Value).Set"], unfollowed := true, recurses := true, named := ["leadlight/api.ErrBound", "leadlight/api.ErrText", "leadlight/api.ErrFull", "unicode/utf8.first", "unicode/utf8.acceptRanges", "internal/bytealg.MaxLen", "leadlight/api.ErrDeep", "leadlight/api.ErrName", "leadlight/api.ErrExist", "leadlight/api.ErrValue", "leadlight/api.ErrShape", "leadlight/api.ErrNone", "leadlight/api.ErrCycle", "leadlight/api.ErrZero", "errors.errorType"], loops := true, apart := false, laid := [("unicode/utf8.acceptRanges", laid_unicode_utf8_acceptRanges), ("errors.errorType", laid_errors_errorType), ("leadlight/api.ErrText", laid_leadlight_api_ErrText), ("leadlight/api.ErrBound", laid_leadlight_api_ErrBound), ("leadlight/api.ErrShape", laid_leadlight_api_ErrShape), ("leadlight/api.ErrName", laid_leadlight_api_ErrName), ("leadlight/api.ErrNone", laid_leadlight_api_ErrNone), ("leadlight/api.ErrExist", laid_leadlight_api_ErrExist), ("leadlight/api.ErrFull", laid_leadlight_api_ErrFull), ("leadlight/api.ErrDeep", laid_leadlight_api_ErrDeep), ("leadlight/api.ErrCycle", laid_leadlight_api_ErrCycle), ("leadlight/api.ErrValue", laid_leadlight_api_ErrValue), ("leadlight/api.ErrZero", laid_leadlight_api_ErrZero), ("unicode/utf8.first", laid_unicode_utf8_first)], narrowed := true }
def StyleTellsUptoSaid : Prop := styleTellsUptoRow.holds Tryz.pinned (OpenSpec.upto styleTellsSpec)

end Rows
end Go.Proofs.YtenegeddcbccdaaGreatDoor
