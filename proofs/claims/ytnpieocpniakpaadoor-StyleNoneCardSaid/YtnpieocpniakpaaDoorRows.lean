/-
  NARROWER THAN 'FOR EVERY INPUT', by the rows' own cells (each row's printed sentence says how): StyleNone: loops, laid · StyleHeirs: loops, laid.
  DERIVED. THE GIVEN ROWS OF THIS SEAT. 2 by the template 'for every input the law returns true; each argument reads behind the call as it read before'; 0 by the template 'total and deterministic' (their statements: YtnpieocpniakpaaDoorTotals.lean).
  GIVEN WITH THE SEED: the statements are not yours to turn. If you find one false, say at which input.
  Laid BY PROGRAM, IN A SANDBOX (cutbox-rows.mjs): the forced cells as the released guide's own fill.sh prints them over the translation 9f15349a54d3d204… (all of the seat's roots in one cut). By AI agents, Wed Nov 11 2026. No macro, syntax, notation, axiom, sorry.
-/
import Derived.Test.YtnpieocpniakpaaDoorChecked
import GoSem.PinnedTables
import GoSem.Claim
import GoSem.ClaimJoined
import GoSem.ClaimMapViews
import Derived.JoinedTies
import Derived.KernelRfl
namespace Go.Proofs.YtnpieocpniakpaaDoor
/- THE CELL 'sum', in the pinned program and in every row, IS THE sha256 OF THE DUMP (.gsa) THAT YtnpieocpniakpaaDoorProg.lean LOADS. Nothing in Lean hashes anything: it is a label: what it is worth is what the hold of that sum in a sandbox is worth. -/
noncomputable def Tryd.pinned : Pinned := { name := "ytnpieocpniakpaadoor", sum := "9f15349a54d3d204120c421067e9b09a84701df8d12b0d51b6e0c84f1a26d20c", checked := Tryd.checked }
namespace Rows
def none {H : Type} : Left H := { results := [], args := [] }

/- WHAT THE LISTED PACKAGE-LEVEL VARIABLES READ AS WHEN THE CALL BEGINS. Each datum BY PROGRAM (the guide's laid-datum.mjs) off the statement by which the dump's own 'gosem.cut.vars' lays the variable. In a bare row this is a premise. The card (YtnpieocpniakpaaDoorCards.lean) ties it to the program's text. -/
def laid_unicode_utf8_acceptRanges {H : Type} : DataW H := .agg [.agg [.lit (.int .u8 128), .lit (.int .u8 191)], .agg [.lit (.int .u8 160), .lit (.int .u8 191)], .agg [.lit (.int .u8 128), .lit (.int .u8 159)], .agg [.lit (.int .u8 144), .lit (.int .u8 191)], .agg [.lit (.int .u8 128), .lit (.int .u8 143)], .agg [.lit (.int .u8 0), .lit (.int .u8 0)], .agg [.lit (.int .u8 0), .lit (.int .u8 0)], .agg [.lit (.int .u8 0), .lit (.int .u8 0)], .agg [.lit (.int .u8 0), .lit (.int .u8 0)], .agg [.lit (.int .u8 0), .lit (.int .u8 0)], .agg [.lit (.int .u8 0), .lit (.int .u8 0)], .agg [.lit (.int .u8 0), .lit (.int .u8 0)], .agg [.lit (.int .u8 0), .lit (.int .u8 0)], .agg [.lit (.int .u8 0), .lit (.int .u8 0)], .agg [.lit (.int .u8 0), .lit (.int .u8 0)], .agg [.lit (.int .u8 0), .lit (.int .u8 0)]]
def laid_leadlight_api_ErrText {H : Type} : DataW H := .iface "*errors.errorString" (.ptr (.agg [.lit (.string [108, 101, 97, 100, 108, 105, 103, 104, 116, 58, 32, 116, 101, 120, 116])]))
def laid_leadlight_api_ErrBound {H : Type} : DataW H := .iface "*errors.errorString" (.ptr (.agg [.lit (.string [108, 101, 97, 100, 108, 105, 103, 104, 116, 58, 32, 98, 111, 117, 110, 100])]))
def laid_leadlight_api_ErrName {H : Type} : DataW H := .iface "*errors.errorString" (.ptr (.agg [.lit (.string [108, 101, 97, 100, 108, 105, 103, 104, 116, 58, 32, 110, 97, 109, 101])]))
def laid_leadlight_api_ErrExist {H : Type} : DataW H := .iface "*errors.errorString" (.ptr (.agg [.lit (.string [108, 101, 97, 100, 108, 105, 103, 104, 116, 58, 32, 101, 120, 105, 115, 116])]))
def laid_leadlight_api_ErrFull {H : Type} : DataW H := .iface "*errors.errorString" (.ptr (.agg [.lit (.string [108, 101, 97, 100, 108, 105, 103, 104, 116, 58, 32, 102, 117, 108, 108])]))
def laid_leadlight_api_ErrDeep {H : Type} : DataW H := .iface "*errors.errorString" (.ptr (.agg [.lit (.string [108, 101, 97, 100, 108, 105, 103, 104, 116, 58, 32, 100, 101, 101, 112])]))
def laid_leadlight_api_ErrValue {H : Type} : DataW H := .iface "*errors.errorString" (.ptr (.agg [.lit (.string [108, 101, 97, 100, 108, 105, 103, 104, 116, 58, 32, 118, 97, 108, 117, 101])]))
/-- One of Go's own tables, pinned by name: the form's constant. -/
def laid_unicode_utf8_first : DataW Unit := Go.Pinned.utf8First

/-- 'leadlightlaw2.StyleNone': WHATEVER THE INPUT: true; the input reads as it did. -/
def styleNoneSpec : ChangeSpec := { name := "styleNone", fn := fun _ => fun
  | [d1, d2, d3, d4, d5] => { results := [.lit (.bool true)], args := [d1, d2, d3, d4, d5] }
  | _ => none }
def styleNoneRow : OpenClaim := { program := "ytnpieocpniakpaadoor", sum := "9f15349a54d3d204120c421067e9b09a84701df8d12b0d51b6e0c84f1a26d20c", func := "leadlight/leadlightlaw2.StyleNone", spec := "styleNone", inPlace := ["internal/bytealg.CountString", "internal/bytealg.IndexByteString", "internal/bytealg.IndexString"], unfollowed := true, recurses := true, named := ["leadlight/api.ErrBound", "leadlight/api.ErrText", "leadlight/api.ErrFull", "unicode/utf8.first", "unicode/utf8.acceptRanges", "internal/bytealg.MaxLen", "leadlight/api.ErrDeep", "leadlight/api.ErrName", "leadlight/api.ErrExist", "leadlight/api.ErrValue"], loops := true, apart := false, laid := [("unicode/utf8.acceptRanges", laid_unicode_utf8_acceptRanges), ("leadlight/api.ErrText", laid_leadlight_api_ErrText), ("leadlight/api.ErrBound", laid_leadlight_api_ErrBound), ("leadlight/api.ErrName", laid_leadlight_api_ErrName), ("leadlight/api.ErrExist", laid_leadlight_api_ErrExist), ("leadlight/api.ErrFull", laid_leadlight_api_ErrFull), ("leadlight/api.ErrDeep", laid_leadlight_api_ErrDeep), ("leadlight/api.ErrValue", laid_leadlight_api_ErrValue), ("unicode/utf8.first", laid_unicode_utf8_first)] }
def StyleNoneSaid : Prop := styleNoneRow.holds Tryd.pinned (OpenSpec.ofChange styleNoneSpec)

/-- ITS FALSE NEIGHBOUR: 'it returns false'. Refute it at one input. -/
def styleNoneWrong : ChangeSpec := { name := "styleNone", fn := fun _ => fun
  | [d1, d2, d3, d4, d5] => { results := [.lit (.bool false)], args := [d1, d2, d3, d4, d5] }
  | _ => none }
def StyleNoneWrongFalsely : Prop := styleNoneRow.holds Tryd.pinned (OpenSpec.ofChange styleNoneWrong)

/-- 'leadlightlaw2.StyleHeirs': WHATEVER THE INPUT: true; the input reads as it did. -/
def styleHeirsSpec : ChangeSpec := { name := "styleHeirs", fn := fun _ => fun
  | [d1, d2] => { results := [.lit (.bool true)], args := [d1, d2] }
  | _ => none }
def styleHeirsRow : OpenClaim := { program := "ytnpieocpniakpaadoor", sum := "9f15349a54d3d204120c421067e9b09a84701df8d12b0d51b6e0c84f1a26d20c", func := "leadlight/leadlightlaw2.StyleHeirs", spec := "styleHeirs", inPlace := ["internal/bytealg.CountString", "internal/bytealg.IndexByteString", "internal/bytealg.IndexString"], unfollowed := true, recurses := true, named := ["leadlight/api.ErrBound", "leadlight/api.ErrText", "leadlight/api.ErrFull", "unicode/utf8.first", "unicode/utf8.acceptRanges", "internal/bytealg.MaxLen", "leadlight/api.ErrDeep", "leadlight/api.ErrName", "leadlight/api.ErrExist", "leadlight/api.ErrValue"], loops := true, apart := false, laid := [("unicode/utf8.acceptRanges", laid_unicode_utf8_acceptRanges), ("leadlight/api.ErrText", laid_leadlight_api_ErrText), ("leadlight/api.ErrBound", laid_leadlight_api_ErrBound), ("leadlight/api.ErrName", laid_leadlight_api_ErrName), ("leadlight/api.ErrExist", laid_leadlight_api_ErrExist), ("leadlight/api.ErrFull", laid_leadlight_api_ErrFull), ("leadlight/api.ErrDeep", laid_leadlight_api_ErrDeep), ("leadlight/api.ErrValue", laid_leadlight_api_ErrValue), ("unicode/utf8.first", laid_unicode_utf8_first)] }
def StyleHeirsSaid : Prop := styleHeirsRow.holds Tryd.pinned (OpenSpec.ofChange styleHeirsSpec)

/-- ITS FALSE NEIGHBOUR: 'it returns false'. Refute it at one input. -/
def styleHeirsWrong : ChangeSpec := { name := "styleHeirs", fn := fun _ => fun
  | [d1, d2] => { results := [.lit (.bool false)], args := [d1, d2] }
  | _ => none }
def StyleHeirsWrongFalsely : Prop := styleHeirsRow.holds Tryd.pinned (OpenSpec.ofChange styleHeirsWrong)

/- THE SECOND FORM. 'bulk': how many values and letters a reading holds, each counted each time it is reached (what is shared counts as often as it is met; a slice's spare places count too). A statement '..UptoSaid' is the law's where the arguments, and the package variables that the reading takes, are together of bulk at most 1048576: NARROWER than '..Said'. Prove '..Said' where nothing that the law and all that it calls make is longer than what came in: it says more and counts as full. Else prove '..UptoSaid'. A law counts once. -/
mutual
def uptoBulk {H : Type} : DataW H → Nat
  | .lit (.string bytes) => bytes.length + 1
  | .lit _ => 1
  | .nil => 1
  | .ptr d => uptoBulk d + 1
  | .slice elems spare => uptoBulkAll elems + uptoBulkAll spare + 1
  | .agg parts => uptoBulkAll parts + 1
  | .iface _ d => uptoBulk d + 1
  | .map entries => uptoBulkEntries entries + 1
  | .held _ => 1
def uptoBulkAll {H : Type} : List (DataW H) → Nat
  | [] => 0
  | d :: r => uptoBulk d + uptoBulkAll r
def uptoBulkEntries {H : Type} : List (Lit × DataW H) → Nat
  | [] => 0
  | x :: r => uptoBulkEntry x + uptoBulkEntries r
def uptoBulkEntry {H : Type} : Lit × DataW H → Nat
  | (.string bytes, d) => bytes.length + uptoBulk d + 1
  | (_, d) => uptoBulk d + 1
 end
def uptoSmall : (H : Type) → List (DataW H) → Bool := fun _ ds => decide (uptoBulkAll ds ≤ 1048576)
def OpenSpec.upto (s : _root_.Go.ChangeSpec) : _root_.Go.OpenSpec := { _root_.Go.OpenSpec.ofChange s with cond := some uptoSmall }

/-- 'leadlightlaw2.StyleNone', WHERE WHAT IT READS IS OF BULK AT MOST 1048576: true; the input reads as it did. -/
def styleNoneUptoRow : OpenClaim := { program := "ytnpieocpniakpaadoor", sum := "9f15349a54d3d204120c421067e9b09a84701df8d12b0d51b6e0c84f1a26d20c", func := "leadlight/leadlightlaw2.StyleNone", spec := "styleNone", inPlace := ["internal/bytealg.CountString", "internal/bytealg.IndexByteString", "internal/bytealg.IndexString"], unfollowed := true, recurses := true, named := ["leadlight/api.ErrBound", "leadlight/api.ErrText", "leadlight/api.ErrFull", "unicode/utf8.first", "unicode/utf8.acceptRanges", "internal/bytealg.MaxLen", "leadlight/api.ErrDeep", "leadlight/api.ErrName", "leadlight/api.ErrExist", "leadlight/api.ErrValue"], loops := true, apart := false, laid := [("unicode/utf8.acceptRanges", laid_unicode_utf8_acceptRanges), ("leadlight/api.ErrText", laid_leadlight_api_ErrText), ("leadlight/api.ErrBound", laid_leadlight_api_ErrBound), ("leadlight/api.ErrName", laid_leadlight_api_ErrName), ("leadlight/api.ErrExist", laid_leadlight_api_ErrExist), ("leadlight/api.ErrFull", laid_leadlight_api_ErrFull), ("leadlight/api.ErrDeep", laid_leadlight_api_ErrDeep), ("leadlight/api.ErrValue", laid_leadlight_api_ErrValue), ("unicode/utf8.first", laid_unicode_utf8_first)], narrowed := true }
def StyleNoneUptoSaid : Prop := styleNoneUptoRow.holds Tryd.pinned (OpenSpec.upto styleNoneSpec)

/-- 'leadlightlaw2.StyleHeirs', WHERE WHAT IT READS IS OF BULK AT MOST 1048576: true; the input reads as it did. -/
def styleHeirsUptoRow : OpenClaim := { program := "ytnpieocpniakpaadoor", sum := "9f15349a54d3d204120c421067e9b09a84701df8d12b0d51b6e0c84f1a26d20c", func := "leadlight/leadlightlaw2.StyleHeirs", spec := "styleHeirs", inPlace := ["internal/bytealg.CountString", "internal/bytealg.IndexByteString", "internal/bytealg.IndexString"], unfollowed := true, recurses := true, named := ["leadlight/api.ErrBound", "leadlight/api.ErrText", "leadlight/api.ErrFull", "unicode/utf8.first", "unicode/utf8.acceptRanges", "internal/bytealg.MaxLen", "leadlight/api.ErrDeep", "leadlight/api.ErrName", "leadlight/api.ErrExist", "leadlight/api.ErrValue"], loops := true, apart := false, laid := [("unicode/utf8.acceptRanges", laid_unicode_utf8_acceptRanges), ("leadlight/api.ErrText", laid_leadlight_api_ErrText), ("leadlight/api.ErrBound", laid_leadlight_api_ErrBound), ("leadlight/api.ErrName", laid_leadlight_api_ErrName), ("leadlight/api.ErrExist", laid_leadlight_api_ErrExist), ("leadlight/api.ErrFull", laid_leadlight_api_ErrFull), ("leadlight/api.ErrDeep", laid_leadlight_api_ErrDeep), ("leadlight/api.ErrValue", laid_leadlight_api_ErrValue), ("unicode/utf8.first", laid_unicode_utf8_first)], narrowed := true }
def StyleHeirsUptoSaid : Prop := styleHeirsUptoRow.holds Tryd.pinned (OpenSpec.upto styleHeirsSpec)

end Rows
end Go.Proofs.YtnpieocpniakpaaDoor
