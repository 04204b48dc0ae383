/-
  NARROWER THAN 'FOR EVERY INPUT', by the rows' own cells (each row's printed sentence says how): ShapeTurns: laid · ShapeBoxes: laid · Names: laid · ShapeMoves: laid · FracOrders: laid · ShapeHolds: laid · FracSums: laid · FracBack: laid.
  DERIVED. THE GIVEN ROWS OF THIS SEAT. 8 by the template 'for every input the law returns true; each argument reads behind the call as it read before'; 0 by the template 'total and deterministic' (their statements: YthpicnajemnfdaaDoorTotals.lean).
  GIVEN WITH THE SEED: the statements are not yours to turn. If you find one false, say at which input.
  Laid BY PROGRAM, IN A SANDBOX (cutbox-rows.mjs): the forced cells as the released guide's own fill.sh prints them over the translation c504a70e1820086f… (all of the seat's roots in one cut). By AI agents, Wed Nov 11 2026. No macro, syntax, notation, axiom, sorry.
-/
import Derived.Test.YthpicnajemnfdaaDoorChecked
import GoSem.Claim
import GoSem.ClaimJoined
import GoSem.ClaimMapViews
import Derived.JoinedTies
import Derived.KernelRfl
namespace Go.Proofs.YthpicnajemnfdaaDoor
/- THE CELL 'sum', in the pinned program and in every row, IS THE sha256 OF THE DUMP (.gsa) THAT YthpicnajemnfdaaDoorProg.lean LOADS. Nothing in Lean hashes anything: it is a label: what it is worth is what the hold of that sum in a sandbox is worth. -/
noncomputable def Tryd.pinned : Pinned := { name := "ythpicnajemnfdaadoor", sum := "c504a70e1820086f3825e0a152cb69b5eba237804f839c8d51f9243fc9313741", checked := Tryd.checked }
namespace Rows
def none {H : Type} : Left H := { results := [], args := [] }

/- WHAT THE LISTED PACKAGE-LEVEL VARIABLES READ AS WHEN THE CALL BEGINS. Each datum BY PROGRAM (the guide's laid-datum.mjs) off the statement by which the dump's own 'gosem.cut.vars' lays the variable. In a bare row this is a premise. The card (YthpicnajemnfdaaDoorCards.lean) ties it to the program's text. -/
def laid_leadlight_api_ErrBound {H : Type} : DataW H := .iface "*errors.errorString" (.ptr (.agg [.lit (.string [108, 101, 97, 100, 108, 105, 103, 104, 116, 58, 32, 98, 111, 117, 110, 100])]))
def laid_leadlight_api_ErrShape {H : Type} : DataW H := .iface "*errors.errorString" (.ptr (.agg [.lit (.string [108, 101, 97, 100, 108, 105, 103, 104, 116, 58, 32, 115, 104, 97, 112, 101])]))
def laid_leadlight_api_ErrValue {H : Type} : DataW H := .iface "*errors.errorString" (.ptr (.agg [.lit (.string [108, 101, 97, 100, 108, 105, 103, 104, 116, 58, 32, 118, 97, 108, 117, 101])]))
def laid_errors_errorType {H : Type} : DataW H := .iface "internal/reflectlite.rtype" (.agg [.ptr (.lit (.string [101, 114, 114, 111, 114]))])
def laid_leadlight_api_ErrText {H : Type} : DataW H := .iface "*errors.errorString" (.ptr (.agg [.lit (.string [108, 101, 97, 100, 108, 105, 103, 104, 116, 58, 32, 116, 101, 120, 116])]))
def laid_leadlight_api_ErrName {H : Type} : DataW H := .iface "*errors.errorString" (.ptr (.agg [.lit (.string [108, 101, 97, 100, 108, 105, 103, 104, 116, 58, 32, 110, 97, 109, 101])]))
def laid_leadlight_api_ErrNone {H : Type} : DataW H := .iface "*errors.errorString" (.ptr (.agg [.lit (.string [108, 101, 97, 100, 108, 105, 103, 104, 116, 58, 32, 110, 111, 110, 101])]))
def laid_leadlight_api_ErrExist {H : Type} : DataW H := .iface "*errors.errorString" (.ptr (.agg [.lit (.string [108, 101, 97, 100, 108, 105, 103, 104, 116, 58, 32, 101, 120, 105, 115, 116])]))
def laid_leadlight_api_ErrFull {H : Type} : DataW H := .iface "*errors.errorString" (.ptr (.agg [.lit (.string [108, 101, 97, 100, 108, 105, 103, 104, 116, 58, 32, 102, 117, 108, 108])]))
def laid_leadlight_api_ErrDeep {H : Type} : DataW H := .iface "*errors.errorString" (.ptr (.agg [.lit (.string [108, 101, 97, 100, 108, 105, 103, 104, 116, 58, 32, 100, 101, 101, 112])]))
def laid_leadlight_api_ErrCycle {H : Type} : DataW H := .iface "*errors.errorString" (.ptr (.agg [.lit (.string [108, 101, 97, 100, 108, 105, 103, 104, 116, 58, 32, 99, 121, 99, 108, 101])]))
def laid_leadlight_api_ErrZero {H : Type} : DataW H := .iface "*errors.errorString" (.ptr (.agg [.lit (.string [108, 101, 97, 100, 108, 105, 103, 104, 116, 58, 32, 122, 101, 114, 111])]))
def laid_math_bits_deBruijn32tab {H : Type} : DataW H := .agg [.lit (.int .u8 0), .lit (.int .u8 1), .lit (.int .u8 28), .lit (.int .u8 2), .lit (.int .u8 29), .lit (.int .u8 14), .lit (.int .u8 24), .lit (.int .u8 3), .lit (.int .u8 30), .lit (.int .u8 22), .lit (.int .u8 20), .lit (.int .u8 15), .lit (.int .u8 25), .lit (.int .u8 17), .lit (.int .u8 4), .lit (.int .u8 8), .lit (.int .u8 31), .lit (.int .u8 27), .lit (.int .u8 13), .lit (.int .u8 23), .lit (.int .u8 21), .lit (.int .u8 19), .lit (.int .u8 16), .lit (.int .u8 7), .lit (.int .u8 26), .lit (.int .u8 12), .lit (.int .u8 18), .lit (.int .u8 6), .lit (.int .u8 11), .lit (.int .u8 5), .lit (.int .u8 10), .lit (.int .u8 9)]
def laid_math_bits_deBruijn64tab {H : Type} : DataW H := .agg [.lit (.int .u8 0), .lit (.int .u8 1), .lit (.int .u8 56), .lit (.int .u8 2), .lit (.int .u8 57), .lit (.int .u8 49), .lit (.int .u8 28), .lit (.int .u8 3), .lit (.int .u8 61), .lit (.int .u8 58), .lit (.int .u8 42), .lit (.int .u8 50), .lit (.int .u8 38), .lit (.int .u8 29), .lit (.int .u8 17), .lit (.int .u8 4), .lit (.int .u8 62), .lit (.int .u8 47), .lit (.int .u8 59), .lit (.int .u8 36), .lit (.int .u8 45), .lit (.int .u8 43), .lit (.int .u8 51), .lit (.int .u8 22), .lit (.int .u8 53), .lit (.int .u8 39), .lit (.int .u8 33), .lit (.int .u8 30), .lit (.int .u8 24), .lit (.int .u8 18), .lit (.int .u8 12), .lit (.int .u8 5), .lit (.int .u8 63), .lit (.int .u8 55), .lit (.int .u8 48), .lit (.int .u8 27), .lit (.int .u8 60), .lit (.int .u8 41), .lit (.int .u8 37), .lit (.int .u8 16), .lit (.int .u8 46), .lit (.int .u8 35), .lit (.int .u8 44), .lit (.int .u8 21), .lit (.int .u8 52), .lit (.int .u8 32), .lit (.int .u8 23), .lit (.int .u8 11), .lit (.int .u8 54), .lit (.int .u8 26), .lit (.int .u8 40), .lit (.int .u8 15), .lit (.int .u8 34), .lit (.int .u8 20), .lit (.int .u8 31), .lit (.int .u8 10), .lit (.int .u8 25), .lit (.int .u8 14), .lit (.int .u8 19), .lit (.int .u8 9), .lit (.int .u8 13), .lit (.int .u8 8), .lit (.int .u8 7), .lit (.int .u8 6)]
def laid_internal_strconv_uint64pow10 {H : Type} : DataW H := .agg [.lit (.int .u64 1), .lit (.int .u64 10), .lit (.int .u64 100), .lit (.int .u64 1000), .lit (.int .u64 10000), .lit (.int .u64 100000), .lit (.int .u64 1000000), .lit (.int .u64 10000000), .lit (.int .u64 100000000), .lit (.int .u64 1000000000), .lit (.int .u64 10000000000), .lit (.int .u64 100000000000), .lit (.int .u64 1000000000000), .lit (.int .u64 10000000000000), .lit (.int .u64 100000000000000), .lit (.int .u64 1000000000000000), .lit (.int .u64 10000000000000000), .lit (.int .u64 100000000000000000), .lit (.int .u64 1000000000000000000), .lit (.int .u64 10000000000000000000)]

/-- 'leadlightlaw2.ShapeTurns': WHATEVER THE INPUT: true; the input reads as it did. -/
def shapeTurnsSpec : ChangeSpec := { name := "shapeTurns", fn := fun _ => fun
  | [d1, d2, d3] => { results := [.lit (.bool true)], args := [d1, d2, d3] }
  | _ => none }
def shapeTurnsRow : OpenClaim := { program := "ythpicnajemnfdaadoor", sum := "c504a70e1820086f3825e0a152cb69b5eba237804f839c8d51f9243fc9313741", func := "leadlight/leadlightlaw2.ShapeTurns", spec := "shapeTurns", named := ["leadlight/api.ErrBound", "leadlight/api.ErrShape", "leadlight/api.ErrValue"], apart := false, laid := [("leadlight/api.ErrBound", laid_leadlight_api_ErrBound), ("leadlight/api.ErrShape", laid_leadlight_api_ErrShape), ("leadlight/api.ErrValue", laid_leadlight_api_ErrValue)] }
def ShapeTurnsSaid : Prop := shapeTurnsRow.holds Tryd.pinned (OpenSpec.ofChange shapeTurnsSpec)

/-- ITS FALSE NEIGHBOUR: 'it returns false'. Refute it at one input. -/
def shapeTurnsWrong : ChangeSpec := { name := "shapeTurns", fn := fun _ => fun
  | [d1, d2, d3] => { results := [.lit (.bool false)], args := [d1, d2, d3] }
  | _ => none }
def ShapeTurnsWrongFalsely : Prop := shapeTurnsRow.holds Tryd.pinned (OpenSpec.ofChange shapeTurnsWrong)

/-- 'leadlightlaw2.ShapeBoxes': WHATEVER THE INPUT: true; the input reads as it did. -/
def shapeBoxesSpec : ChangeSpec := { name := "shapeBoxes", fn := fun _ => fun
  | [d1, d2, d3, d4, d5] => { results := [.lit (.bool true)], args := [d1, d2, d3, d4, d5] }
  | _ => none }
def shapeBoxesRow : OpenClaim := { program := "ythpicnajemnfdaadoor", sum := "c504a70e1820086f3825e0a152cb69b5eba237804f839c8d51f9243fc9313741", func := "leadlight/leadlightlaw2.ShapeBoxes", spec := "shapeBoxes", named := ["leadlight/api.ErrBound", "leadlight/api.ErrShape", "leadlight/api.ErrValue"], apart := false, laid := [("leadlight/api.ErrBound", laid_leadlight_api_ErrBound), ("leadlight/api.ErrShape", laid_leadlight_api_ErrShape), ("leadlight/api.ErrValue", laid_leadlight_api_ErrValue)] }
def ShapeBoxesSaid : Prop := shapeBoxesRow.holds Tryd.pinned (OpenSpec.ofChange shapeBoxesSpec)

/-- ITS FALSE NEIGHBOUR: 'it returns false'. Refute it at one input. -/
def shapeBoxesWrong : ChangeSpec := { name := "shapeBoxes", fn := fun _ => fun
  | [d1, d2, d3, d4, d5] => { results := [.lit (.bool false)], args := [d1, d2, d3, d4, d5] }
  | _ => none }
def ShapeBoxesWrongFalsely : Prop := shapeBoxesRow.holds Tryd.pinned (OpenSpec.ofChange shapeBoxesWrong)

/-- 'leadlightlaw1.Names': WHATEVER THE INPUT: true; the input reads as it did. -/
def namesSpec : ChangeSpec := { name := "names", fn := fun _ => fun
  | [] => { results := [.lit (.bool true)], args := [] }
  | _ => none }
def namesRow : OpenClaim := { program := "ythpicnajemnfdaadoor", sum := "c504a70e1820086f3825e0a152cb69b5eba237804f839c8d51f9243fc9313741", func := "leadlight/leadlightlaw1.Names", spec := "names", inPlace := ["internal/reflectlite.ValueOf", "(internal/reflectlite.Value).Type", "(internal/reflectlite.Value).IsNil", "internal/reflectlite.TypeOf", "(internal/reflectlite.Value).Elem", "(internal/reflectlite.Value).Set"], unfollowed := true, recurses := true, named := ["leadlight/api.ErrText", "leadlight/api.ErrBound", "leadlight/api.ErrShape", "leadlight/api.ErrName", "leadlight/api.ErrNone", "leadlight/api.ErrExist", "leadlight/api.ErrFull", "leadlight/api.ErrDeep", "leadlight/api.ErrCycle", "leadlight/api.ErrValue", "leadlight/api.ErrZero", "errors.errorType"], apart := false, laid := [("errors.errorType", laid_errors_errorType), ("leadlight/api.ErrText", laid_leadlight_api_ErrText), ("leadlight/api.ErrBound", laid_leadlight_api_ErrBound), ("leadlight/api.ErrShape", laid_leadlight_api_ErrShape), ("leadlight/api.ErrName", laid_leadlight_api_ErrName), ("leadlight/api.ErrNone", laid_leadlight_api_ErrNone), ("leadlight/api.ErrExist", laid_leadlight_api_ErrExist), ("leadlight/api.ErrFull", laid_leadlight_api_ErrFull), ("leadlight/api.ErrDeep", laid_leadlight_api_ErrDeep), ("leadlight/api.ErrCycle", laid_leadlight_api_ErrCycle), ("leadlight/api.ErrValue", laid_leadlight_api_ErrValue), ("leadlight/api.ErrZero", laid_leadlight_api_ErrZero)] }
def NamesSaid : Prop := namesRow.holds Tryd.pinned (OpenSpec.ofChange namesSpec)

/-- ITS FALSE NEIGHBOUR: 'it returns false'. Refute it at one input. -/
def namesWrong : ChangeSpec := { name := "names", fn := fun _ => fun
  | [] => { results := [.lit (.bool false)], args := [] }
  | _ => none }
def NamesWrongFalsely : Prop := namesRow.holds Tryd.pinned (OpenSpec.ofChange namesWrong)

/-- 'leadlightlaw2.ShapeMoves': WHATEVER THE INPUT: true; the input reads as it did. -/
def shapeMovesSpec : ChangeSpec := { name := "shapeMoves", fn := fun _ => fun
  | [d1, d2, d3, d4] => { results := [.lit (.bool true)], args := [d1, d2, d3, d4] }
  | _ => none }
def shapeMovesRow : OpenClaim := { program := "ythpicnajemnfdaadoor", sum := "c504a70e1820086f3825e0a152cb69b5eba237804f839c8d51f9243fc9313741", func := "leadlight/leadlightlaw2.ShapeMoves", spec := "shapeMoves", unfollowed := true, recurses := true, named := ["leadlight/api.ErrBound", "leadlight/api.ErrShape", "leadlight/api.ErrValue", "leadlight/api.ErrZero"], apart := false, laid := [("leadlight/api.ErrBound", laid_leadlight_api_ErrBound), ("leadlight/api.ErrShape", laid_leadlight_api_ErrShape), ("leadlight/api.ErrValue", laid_leadlight_api_ErrValue), ("leadlight/api.ErrZero", laid_leadlight_api_ErrZero)] }
def ShapeMovesSaid : Prop := shapeMovesRow.holds Tryd.pinned (OpenSpec.ofChange shapeMovesSpec)

/-- ITS FALSE NEIGHBOUR: 'it returns false'. Refute it at one input. -/
def shapeMovesWrong : ChangeSpec := { name := "shapeMoves", fn := fun _ => fun
  | [d1, d2, d3, d4] => { results := [.lit (.bool false)], args := [d1, d2, d3, d4] }
  | _ => none }
def ShapeMovesWrongFalsely : Prop := shapeMovesRow.holds Tryd.pinned (OpenSpec.ofChange shapeMovesWrong)

/-- 'leadlightlaw1.FracOrders': WHATEVER THE INPUT: true; the input reads as it did. -/
def fracOrdersSpec : ChangeSpec := { name := "fracOrders", fn := fun _ => fun
  | [d1, d2, d3] => { results := [.lit (.bool true)], args := [d1, d2, d3] }
  | _ => none }
def fracOrdersRow : OpenClaim := { program := "ythpicnajemnfdaadoor", sum := "c504a70e1820086f3825e0a152cb69b5eba237804f839c8d51f9243fc9313741", func := "leadlight/leadlightlaw1.FracOrders", spec := "fracOrders", named := ["leadlight/api.ErrZero", "leadlight/api.ErrBound", "internal/strconv.uint64pow10", "math/bits.deBruijn32tab", "math/bits.deBruijn64tab", "leadlight/api.ErrShape"], apart := false, laid := [("math/bits.deBruijn32tab", laid_math_bits_deBruijn32tab), ("math/bits.deBruijn64tab", laid_math_bits_deBruijn64tab), ("internal/strconv.uint64pow10", laid_internal_strconv_uint64pow10), ("leadlight/api.ErrBound", laid_leadlight_api_ErrBound), ("leadlight/api.ErrShape", laid_leadlight_api_ErrShape), ("leadlight/api.ErrZero", laid_leadlight_api_ErrZero)] }
def FracOrdersSaid : Prop := fracOrdersRow.holds Tryd.pinned (OpenSpec.ofChange fracOrdersSpec)

/-- ITS FALSE NEIGHBOUR: 'it returns false'. Refute it at one input. -/
def fracOrdersWrong : ChangeSpec := { name := "fracOrders", fn := fun _ => fun
  | [d1, d2, d3] => { results := [.lit (.bool false)], args := [d1, d2, d3] }
  | _ => none }
def FracOrdersWrongFalsely : Prop := fracOrdersRow.holds Tryd.pinned (OpenSpec.ofChange fracOrdersWrong)

/-- 'leadlightlaw2.ShapeHolds': WHATEVER THE INPUT: true; the input reads as it did. -/
def shapeHoldsSpec : ChangeSpec := { name := "shapeHolds", fn := fun _ => fun
  | [d1, d2, d3] => { results := [.lit (.bool true)], args := [d1, d2, d3] }
  | _ => none }
def shapeHoldsRow : OpenClaim := { program := "ythpicnajemnfdaadoor", sum := "c504a70e1820086f3825e0a152cb69b5eba237804f839c8d51f9243fc9313741", func := "leadlight/leadlightlaw2.ShapeHolds", spec := "shapeHolds", inPlace := ["internal/reflectlite.ValueOf", "(internal/reflectlite.Value).Type", "(internal/reflectlite.Value).IsNil", "internal/reflectlite.TypeOf", "(internal/reflectlite.Value).Elem", "(internal/reflectlite.Value).Set"], unfollowed := true, recurses := true, named := ["leadlight/api.ErrBound", "leadlight/api.ErrShape", "leadlight/api.ErrValue", "leadlight/api.ErrText", "leadlight/api.ErrName", "leadlight/api.ErrNone", "leadlight/api.ErrExist", "leadlight/api.ErrFull", "leadlight/api.ErrDeep", "leadlight/api.ErrCycle", "leadlight/api.ErrZero", "errors.errorType"], apart := false, laid := [("errors.errorType", laid_errors_errorType), ("leadlight/api.ErrText", laid_leadlight_api_ErrText), ("leadlight/api.ErrBound", laid_leadlight_api_ErrBound), ("leadlight/api.ErrShape", laid_leadlight_api_ErrShape), ("leadlight/api.ErrName", laid_leadlight_api_ErrName), ("leadlight/api.ErrNone", laid_leadlight_api_ErrNone), ("leadlight/api.ErrExist", laid_leadlight_api_ErrExist), ("leadlight/api.ErrFull", laid_leadlight_api_ErrFull), ("leadlight/api.ErrDeep", laid_leadlight_api_ErrDeep), ("leadlight/api.ErrCycle", laid_leadlight_api_ErrCycle), ("leadlight/api.ErrValue", laid_leadlight_api_ErrValue), ("leadlight/api.ErrZero", laid_leadlight_api_ErrZero)] }
def ShapeHoldsSaid : Prop := shapeHoldsRow.holds Tryd.pinned (OpenSpec.ofChange shapeHoldsSpec)

/-- ITS FALSE NEIGHBOUR: 'it returns false'. Refute it at one input. -/
def shapeHoldsWrong : ChangeSpec := { name := "shapeHolds", fn := fun _ => fun
  | [d1, d2, d3] => { results := [.lit (.bool false)], args := [d1, d2, d3] }
  | _ => none }
def ShapeHoldsWrongFalsely : Prop := shapeHoldsRow.holds Tryd.pinned (OpenSpec.ofChange shapeHoldsWrong)

/-- 'leadlightlaw1.FracSums': WHATEVER THE INPUT: true; the input reads as it did. -/
def fracSumsSpec : ChangeSpec := { name := "fracSums", fn := fun _ => fun
  | [d1, d2] => { results := [.lit (.bool true)], args := [d1, d2] }
  | _ => none }
def fracSumsRow : OpenClaim := { program := "ythpicnajemnfdaadoor", sum := "c504a70e1820086f3825e0a152cb69b5eba237804f839c8d51f9243fc9313741", func := "leadlight/leadlightlaw1.FracSums", spec := "fracSums", inPlace := ["internal/reflectlite.ValueOf", "(internal/reflectlite.Value).Type", "(internal/reflectlite.Value).IsNil", "internal/reflectlite.TypeOf", "(internal/reflectlite.Value).Elem", "(internal/reflectlite.Value).Set"], unfollowed := true, recurses := true, named := ["leadlight/api.ErrZero", "leadlight/api.ErrBound", "internal/strconv.uint64pow10", "math/bits.deBruijn32tab", "math/bits.deBruijn64tab", "leadlight/api.ErrShape", "leadlight/api.ErrText", "leadlight/api.ErrName", "leadlight/api.ErrNone", "leadlight/api.ErrExist", "leadlight/api.ErrFull", "leadlight/api.ErrDeep", "leadlight/api.ErrCycle", "leadlight/api.ErrValue", "errors.errorType"], apart := false, laid := [("math/bits.deBruijn32tab", laid_math_bits_deBruijn32tab), ("math/bits.deBruijn64tab", laid_math_bits_deBruijn64tab), ("internal/strconv.uint64pow10", laid_internal_strconv_uint64pow10), ("errors.errorType", laid_errors_errorType), ("leadlight/api.ErrText", laid_leadlight_api_ErrText), ("leadlight/api.ErrBound", laid_leadlight_api_ErrBound), ("leadlight/api.ErrShape", laid_leadlight_api_ErrShape), ("leadlight/api.ErrName", laid_leadlight_api_ErrName), ("leadlight/api.ErrNone", laid_leadlight_api_ErrNone), ("leadlight/api.ErrExist", laid_leadlight_api_ErrExist), ("leadlight/api.ErrFull", laid_leadlight_api_ErrFull), ("leadlight/api.ErrDeep", laid_leadlight_api_ErrDeep), ("leadlight/api.ErrCycle", laid_leadlight_api_ErrCycle), ("leadlight/api.ErrValue", laid_leadlight_api_ErrValue), ("leadlight/api.ErrZero", laid_leadlight_api_ErrZero)] }
def FracSumsSaid : Prop := fracSumsRow.holds Tryd.pinned (OpenSpec.ofChange fracSumsSpec)

/-- ITS FALSE NEIGHBOUR: 'it returns false'. Refute it at one input. -/
def fracSumsWrong : ChangeSpec := { name := "fracSums", fn := fun _ => fun
  | [d1, d2] => { results := [.lit (.bool false)], args := [d1, d2] }
  | _ => none }
def FracSumsWrongFalsely : Prop := fracSumsRow.holds Tryd.pinned (OpenSpec.ofChange fracSumsWrong)

/-- 'leadlightlaw1.FracBack': WHATEVER THE INPUT: true; the input reads as it did. -/
def fracBackSpec : ChangeSpec := { name := "fracBack", fn := fun _ => fun
  | [d1, d2] => { results := [.lit (.bool true)], args := [d1, d2] }
  | _ => none }
def fracBackRow : OpenClaim := { program := "ythpicnajemnfdaadoor", sum := "c504a70e1820086f3825e0a152cb69b5eba237804f839c8d51f9243fc9313741", func := "leadlight/leadlightlaw1.FracBack", spec := "fracBack", inPlace := ["internal/reflectlite.ValueOf", "(internal/reflectlite.Value).Type", "(internal/reflectlite.Value).IsNil", "internal/reflectlite.TypeOf", "(internal/reflectlite.Value).Elem", "(internal/reflectlite.Value).Set"], unfollowed := true, recurses := true, named := ["leadlight/api.ErrZero", "leadlight/api.ErrBound", "internal/strconv.uint64pow10", "math/bits.deBruijn32tab", "math/bits.deBruijn64tab", "leadlight/api.ErrShape", "leadlight/api.ErrText", "leadlight/api.ErrName", "leadlight/api.ErrNone", "leadlight/api.ErrExist", "leadlight/api.ErrFull", "leadlight/api.ErrDeep", "leadlight/api.ErrCycle", "leadlight/api.ErrValue", "errors.errorType"], apart := false, laid := [("math/bits.deBruijn32tab", laid_math_bits_deBruijn32tab), ("math/bits.deBruijn64tab", laid_math_bits_deBruijn64tab), ("internal/strconv.uint64pow10", laid_internal_strconv_uint64pow10), ("errors.errorType", laid_errors_errorType), ("leadlight/api.ErrText", laid_leadlight_api_ErrText), ("leadlight/api.ErrBound", laid_leadlight_api_ErrBound), ("leadlight/api.ErrShape", laid_leadlight_api_ErrShape), ("leadlight/api.ErrName", laid_leadlight_api_ErrName), ("leadlight/api.ErrNone", laid_leadlight_api_ErrNone), ("leadlight/api.ErrExist", laid_leadlight_api_ErrExist), ("leadlight/api.ErrFull", laid_leadlight_api_ErrFull), ("leadlight/api.ErrDeep", laid_leadlight_api_ErrDeep), ("leadlight/api.ErrCycle", laid_leadlight_api_ErrCycle), ("leadlight/api.ErrValue", laid_leadlight_api_ErrValue), ("leadlight/api.ErrZero", laid_leadlight_api_ErrZero)] }
def FracBackSaid : Prop := fracBackRow.holds Tryd.pinned (OpenSpec.ofChange fracBackSpec)

/-- ITS FALSE NEIGHBOUR: 'it returns false'. Refute it at one input. -/
def fracBackWrong : ChangeSpec := { name := "fracBack", fn := fun _ => fun
  | [d1, d2] => { results := [.lit (.bool false)], args := [d1, d2] }
  | _ => none }
def FracBackWrongFalsely : Prop := fracBackRow.holds Tryd.pinned (OpenSpec.ofChange fracBackWrong)

/- THE SECOND FORM. 'bulk': how many values and letters a reading holds, each counted each time it is reached (what is shared counts as often as it is met; a slice's spare places count too). A statement '..UptoSaid' is the law's where the arguments, and the package variables that the reading takes, are together of bulk at most 1048576: NARROWER than '..Said'. Prove '..Said' where nothing that the law and all that it calls make is longer than what came in: it says more and counts as full. Else prove '..UptoSaid'. A law counts once. -/
mutual
def uptoBulk {H : Type} : DataW H → Nat
  | .lit (.string bytes) => bytes.length + 1
  | .lit _ => 1
  | .nil => 1
  | .ptr d => uptoBulk d + 1
  | .slice elems spare => uptoBulkAll elems + uptoBulkAll spare + 1
  | .agg parts => uptoBulkAll parts + 1
  | .iface _ d => uptoBulk d + 1
  | .map entries => uptoBulkEntries entries + 1
  | .held _ => 1
def uptoBulkAll {H : Type} : List (DataW H) → Nat
  | [] => 0
  | d :: r => uptoBulk d + uptoBulkAll r
def uptoBulkEntries {H : Type} : List (Lit × DataW H) → Nat
  | [] => 0
  | x :: r => uptoBulkEntry x + uptoBulkEntries r
def uptoBulkEntry {H : Type} : Lit × DataW H → Nat
  | (.string bytes, d) => bytes.length + uptoBulk d + 1
  | (_, d) => uptoBulk d + 1
 end
def uptoSmall : (H : Type) → List (DataW H) → Bool := fun _ ds => decide (uptoBulkAll ds ≤ 1048576)
def OpenSpec.upto (s : _root_.Go.ChangeSpec) : _root_.Go.OpenSpec := { _root_.Go.OpenSpec.ofChange s with cond := some uptoSmall }

/-- 'leadlightlaw2.ShapeTurns', WHERE WHAT IT READS IS OF BULK AT MOST 1048576: true; the input reads as it did. -/
def shapeTurnsUptoRow : OpenClaim := { program := "ythpicnajemnfdaadoor", sum := "c504a70e1820086f3825e0a152cb69b5eba237804f839c8d51f9243fc9313741", func := "leadlight/leadlightlaw2.ShapeTurns", spec := "shapeTurns", named := ["leadlight/api.ErrBound", "leadlight/api.ErrShape", "leadlight/api.ErrValue"], apart := false, laid := [("leadlight/api.ErrBound", laid_leadlight_api_ErrBound), ("leadlight/api.ErrShape", laid_leadlight_api_ErrShape), ("leadlight/api.ErrValue", laid_leadlight_api_ErrValue)], narrowed := true }
def ShapeTurnsUptoSaid : Prop := shapeTurnsUptoRow.holds Tryd.pinned (OpenSpec.upto shapeTurnsSpec)

/-- 'leadlightlaw2.ShapeBoxes', WHERE WHAT IT READS IS OF BULK AT MOST 1048576: true; the input reads as it did. -/
def shapeBoxesUptoRow : OpenClaim := { program := "ythpicnajemnfdaadoor", sum := "c504a70e1820086f3825e0a152cb69b5eba237804f839c8d51f9243fc9313741", func := "leadlight/leadlightlaw2.ShapeBoxes", spec := "shapeBoxes", named := ["leadlight/api.ErrBound", "leadlight/api.ErrShape", "leadlight/api.ErrValue"], apart := false, laid := [("leadlight/api.ErrBound", laid_leadlight_api_ErrBound), ("leadlight/api.ErrShape", laid_leadlight_api_ErrShape), ("leadlight/api.ErrValue", laid_leadlight_api_ErrValue)], narrowed := true }
def ShapeBoxesUptoSaid : Prop := shapeBoxesUptoRow.holds Tryd.pinned (OpenSpec.upto shapeBoxesSpec)

/-- 'leadlightlaw1.Names', WHERE WHAT IT READS IS OF BULK AT MOST 1048576: true; the input reads as it did. -/
def namesUptoRow : OpenClaim := { program := "ythpicnajemnfdaadoor", sum := "c504a70e1820086f3825e0a152cb69b5eba237804f839c8d51f9243fc9313741", func := "leadlight/leadlightlaw1.Names", spec := "names", inPlace := ["internal/reflectlite.ValueOf", "(internal/reflectlite.Value).Type", "(internal/reflectlite.Value).IsNil", "internal/reflectlite.TypeOf", "(internal/reflectlite.Value).Elem", "(internal/reflectlite.Value).Set"], unfollowed := true, recurses := true, named := ["leadlight/api.ErrText", "leadlight/api.ErrBound", "leadlight/api.ErrShape", "leadlight/api.ErrName", "leadlight/api.ErrNone", "leadlight/api.ErrExist", "leadlight/api.ErrFull", "leadlight/api.ErrDeep", "leadlight/api.ErrCycle", "leadlight/api.ErrValue", "leadlight/api.ErrZero", "errors.errorType"], apart := false, laid := [("errors.errorType", laid_errors_errorType), ("leadlight/api.ErrText", laid_leadlight_api_ErrText), ("leadlight/api.ErrBound", laid_leadlight_api_ErrBound), ("leadlight/api.ErrShape", laid_leadlight_api_ErrShape), ("leadlight/api.ErrName", laid_leadlight_api_ErrName), ("leadlight/api.ErrNone", laid_leadlight_api_ErrNone), ("leadlight/api.ErrExist", laid_leadlight_api_ErrExist), ("leadlight/api.ErrFull", laid_leadlight_api_ErrFull), ("leadlight/api.ErrDeep", laid_leadlight_api_ErrDeep), ("leadlight/api.ErrCycle", laid_leadlight_api_ErrCycle), ("leadlight/api.ErrValue", laid_leadlight_api_ErrValue), ("leadlight/api.ErrZero", laid_leadlight_api_ErrZero)], narrowed := true }
def NamesUptoSaid : Prop := namesUptoRow.holds Tryd.pinned (OpenSpec.upto namesSpec)

/-- 'leadlightlaw2.ShapeMoves', WHERE WHAT IT READS IS OF BULK AT MOST 1048576: true; the input reads as it did. -/
def shapeMovesUptoRow : OpenClaim := { program := "ythpicnajemnfdaadoor", sum := "c504a70e1820086f3825e0a152cb69b5eba237804f839c8d51f9243fc9313741", func := "leadlight/leadlightlaw2.ShapeMoves", spec := "shapeMoves", unfollowed := true, recurses := true, named := ["leadlight/api.ErrBound", "leadlight/api.ErrShape", "leadlight/api.ErrValue", "leadlight/api.ErrZero"], apart := false, laid := [("leadlight/api.ErrBound", laid_leadlight_api_ErrBound), ("leadlight/api.ErrShape", laid_leadlight_api_ErrShape), ("leadlight/api.ErrValue", laid_leadlight_api_ErrValue), ("leadlight/api.ErrZero", laid_leadlight_api_ErrZero)], narrowed := true }
def ShapeMovesUptoSaid : Prop := shapeMovesUptoRow.holds Tryd.pinned (OpenSpec.upto shapeMovesSpec)

/-- 'leadlightlaw1.FracOrders', WHERE WHAT IT READS IS OF BULK AT MOST 1048576: true; the input reads as it did. -/
def fracOrdersUptoRow : OpenClaim := { program := "ythpicnajemnfdaadoor", sum := "c504a70e1820086f3825e0a152cb69b5eba237804f839c8d51f9243fc9313741", func := "leadlight/leadlightlaw1.FracOrders", spec := "fracOrders", named := ["leadlight/api.ErrZero", "leadlight/api.ErrBound", "internal/strconv.uint64pow10", "math/bits.deBruijn32tab", "math/bits.deBruijn64tab", "leadlight/api.ErrShape"], apart := false, laid := [("math/bits.deBruijn32tab", laid_math_bits_deBruijn32tab), ("math/bits.deBruijn64tab", laid_math_bits_deBruijn64tab), ("internal/strconv.uint64pow10", laid_internal_strconv_uint64pow10), ("leadlight/api.ErrBound", laid_leadlight_api_ErrBound), ("leadlight/api.ErrShape", laid_leadlight_api_ErrShape), ("leadlight/api.ErrZero", laid_leadlight_api_ErrZero)], narrowed := true }
def FracOrdersUptoSaid : Prop := fracOrdersUptoRow.holds Tryd.pinned (OpenSpec.upto fracOrdersSpec)

/-- 'leadlightlaw2.ShapeHolds', WHERE WHAT IT READS IS OF BULK AT MOST 1048576: true; the input reads as it did. -/
def shapeHoldsUptoRow : OpenClaim := { program := "ythpicnajemnfdaadoor", sum := "c504a70e1820086f3825e0a152cb69b5eba237804f839c8d51f9243fc9313741", func := "leadlight/leadlightlaw2.ShapeHolds", spec := "shapeHolds", inPlace := ["internal/reflectlite.ValueOf", "(internal/reflectlite.Value).Type", "(internal/reflectlite.Value).IsNil", "internal/reflectlite.TypeOf", "(internal/reflectlite.Value).Elem", "(internal/reflectlite.Value).Set"], unfollowed := true, recurses := true, named := ["leadlight/api.ErrBound", "leadlight/api.ErrShape", "leadlight/api.ErrValue", "leadlight/api.ErrText", "leadlight/api.ErrName", "leadlight/api.ErrNone", "leadlight/api.ErrExist", "leadlight/api.ErrFull", "leadlight/api.ErrDeep", "leadlight/api.ErrCycle", "leadlight/api.ErrZero", "errors.errorType"], apart := false, laid := [("errors.errorType", laid_errors_errorType), ("leadlight/api.ErrText", laid_leadlight_api_ErrText), ("leadlight/api.ErrBound", laid_leadlight_api_ErrBound), ("leadlight/api.ErrShape", laid_leadlight_api_ErrShape), ("leadlight/api.ErrName", laid_leadlight_api_ErrName), ("leadlight/api.ErrNone", laid_leadlight_api_ErrNone), ("leadlight/api.ErrExist", laid_leadlight_api_ErrExist), ("leadlight/api.ErrFull", laid_leadlight_api_ErrFull), ("leadlight/api.ErrDeep", laid_leadlight_api_ErrDeep), ("leadlight/api.ErrCycle", laid_leadlight_api_ErrCycle), ("leadlight/api.ErrValue", laid_leadlight_api_ErrValue), ("leadlight/api.ErrZero", laid_leadlight_api_ErrZero)], narrowed := true }
def ShapeHoldsUptoSaid : Prop := shapeHoldsUptoRow.holds Tryd.pinned (OpenSpec.upto shapeHoldsSpec)

/-- 'leadlightlaw1.FracSums', WHERE WHAT IT READS IS OF BULK AT MOST 1048576: true; the input reads as it did. -/
def fracSumsUptoRow : OpenClaim := { program := "ythpicnajemnfdaadoor", sum := "c504a70e1820086f3825e0a152cb69b5eba237804f839c8d51f9243fc9313741", func := "leadlight/leadlightlaw1.FracSums", spec := "fracSums", inPlace := ["internal/reflectlite.ValueOf", "(internal/reflectlite.Value).Type", "(internal/reflectlite.Value).IsNil", "internal/reflectlite.TypeOf", "(internal/reflectlite.Value).Elem", "(internal/reflectlite.Value).Set"], unfollowed := true, recurses := true, named := ["leadlight/api.ErrZero", "leadlight/api.ErrBound", "internal/strconv.uint64pow10", "math/bits.deBruijn32tab", "math/bits.deBruijn64tab", "leadlight/api.ErrShape", "leadlight/api.ErrText", "leadlight/api.ErrName", "leadlight/api.ErrNone", "leadlight/api.ErrExist", "leadlight/api.ErrFull", "leadlight/api.ErrDeep", "leadlight/api.ErrCycle", "leadlight/api.ErrValue", "errors.errorType"], apart := false, laid := [("math/bits.deBruijn32tab", laid_math_bits_deBruijn32tab), ("math/bits.deBruijn64tab", laid_math_bits_deBruijn64tab), ("internal/strconv.uint64pow10", laid_internal_strconv_uint64pow10), ("errors.errorType", laid_errors_errorType), ("leadlight/api.ErrText", laid_leadlight_api_ErrText), ("leadlight/api.ErrBound", laid_leadlight_api_ErrBound), ("leadlight/api.ErrShape", laid_leadlight_api_ErrShape), ("leadlight/api.ErrName", laid_leadlight_api_ErrName), ("leadlight/api.ErrNone", laid_leadlight_api_ErrNone), ("leadlight/api.ErrExist", laid_leadlight_api_ErrExist), ("leadlight/api.ErrFull", laid_leadlight_api_ErrFull), ("leadlight/api.ErrDeep", laid_leadlight_api_ErrDeep), ("leadlight/api.ErrCycle", laid_leadlight_api_ErrCycle), ("leadlight/api.ErrValue", laid_leadlight_api_ErrValue), ("leadlight/api.ErrZero", laid_leadlight_api_ErrZero)], narrowed := true }
def FracSumsUptoSaid : Prop := fracSumsUptoRow.holds Tryd.pinned (OpenSpec.upto fracSumsSpec)

/-- 'leadlightlaw1.FracBack', WHERE WHAT IT READS IS OF BULK AT MOST 1048576: true; the input reads as it did. -/
def fracBackUptoRow : OpenClaim := { program := "ythpicnajemnfdaadoor", sum := "c504a70e1820086f3825e0a152cb69b5eba237804f839c8d51f9243fc9313741", func := "leadlight/leadlightlaw1.FracBack", spec := "fracBack", inPlace := ["internal/reflectlite.ValueOf", "(internal/reflectlite.Value).Type", "(internal/reflectlite.Value).IsNil", "internal/reflectlite.TypeOf", "(internal/reflectlite.Value).Elem", "(internal/reflectlite.Value).Set"], unfollowed := true, recurses := true, named := ["leadlight/api.ErrZero", "leadlight/api.ErrBound", "internal/strconv.uint64pow10", "math/bits.deBruijn32tab", "math/bits.deBruijn64tab", "leadlight/api.ErrShape", "leadlight/api.ErrText", "leadlight/api.ErrName", "leadlight/api.ErrNone", "leadlight/api.ErrExist", "leadlight/api.ErrFull", "leadlight/api.ErrDeep", "leadlight/api.ErrCycle", "leadlight/api.ErrValue", "errors.errorType"], apart := false, laid := [("math/bits.deBruijn32tab", laid_math_bits_deBruijn32tab), ("math/bits.deBruijn64tab", laid_math_bits_deBruijn64tab), ("internal/strconv.uint64pow10", laid_internal_strconv_uint64pow10), ("errors.errorType", laid_errors_errorType), ("leadlight/api.ErrText", laid_leadlight_api_ErrText), ("leadlight/api.ErrBound", laid_leadlight_api_ErrBound), ("leadlight/api.ErrShape", laid_leadlight_api_ErrShape), ("leadlight/api.ErrName", laid_leadlight_api_ErrName), ("leadlight/api.ErrNone", laid_leadlight_api_ErrNone), ("leadlight/api.ErrExist", laid_leadlight_api_ErrExist), ("leadlight/api.ErrFull", laid_leadlight_api_ErrFull), ("leadlight/api.ErrDeep", laid_leadlight_api_ErrDeep), ("leadlight/api.ErrCycle", laid_leadlight_api_ErrCycle), ("leadlight/api.ErrValue", laid_leadlight_api_ErrValue), ("leadlight/api.ErrZero", laid_leadlight_api_ErrZero)], narrowed := true }
def FracBackUptoSaid : Prop := fracBackUptoRow.holds Tryd.pinned (OpenSpec.upto fracBackSpec)

end Rows
end Go.Proofs.YthpicnajemnfdaaDoor
