/-
  NARROWER THAN 'FOR EVERY INPUT', by the rows' own cells (each row's printed sentence says how): CellsJoins: laid · OpSorts: laid · TreeTurned: laid · CellsSets: laid · TreeMoves: laid · OpApart: laid.
  DERIVED. THE GIVEN ROWS OF THIS SEAT. 6 by the template 'for every input the law returns true; each argument reads behind the call as it read before'; 0 by the template 'total and deterministic' (their statements: YtneggbhjekklhaaDoorTotals.lean).
  GIVEN WITH THE SEED: the statements are not yours to turn. If you find one false, say at which input.
  Laid BY PROGRAM, IN A SANDBOX (cutbox-rows.mjs): the forced cells as the released guide's own fill.sh prints them over the translation 513cbadb9959f89e… (all of the seat's roots in one cut). By AI agents, Wed Nov 11 2026. No macro, syntax, notation, axiom, sorry.
-/
import Derived.Test.YtneggbhjekklhaaDoorChecked
import GoSem.PinnedTables
import GoSem.Claim
import GoSem.ClaimJoined
import GoSem.ClaimMapViews
import Derived.JoinedTies
import Derived.KernelRfl
namespace Go.Proofs.YtneggbhjekklhaaDoor
/- THE CELL 'sum', in the pinned program and in every row, IS THE sha256 OF THE DUMP (.gsa) THAT YtneggbhjekklhaaDoorProg.lean LOADS. Nothing in Lean hashes anything: it is a label: what it is worth is what the hold of that sum in a sandbox is worth. -/
noncomputable def Tryd.pinned : Pinned := { name := "ytneggbhjekklhaadoor", sum := "513cbadb9959f89e76fde7eb4f3fc4f743a3419dadf95774747e2a5b4e727c3a", checked := Tryd.checked }
namespace Rows
def none {H : Type} : Left H := { results := [], args := [] }

/- WHAT THE LISTED PACKAGE-LEVEL VARIABLES READ AS WHEN THE CALL BEGINS. Each datum BY PROGRAM (the guide's laid-datum.mjs) off the statement by which the dump's own 'gosem.cut.vars' lays the variable. In a bare row this is a premise. The card (YtneggbhjekklhaaDoorCards.lean) ties it to the program's text. -/
def laid_concordat_api_ErrBound {H : Type} : DataW H := .iface "*errors.errorString" (.ptr (.agg [.lit (.string [99, 111, 110, 99, 111, 114, 100, 97, 116, 58, 32, 98, 111, 117, 110, 100])]))
def laid_concordat_api_ErrShape {H : Type} : DataW H := .iface "*errors.errorString" (.ptr (.agg [.lit (.string [99, 111, 110, 99, 111, 114, 100, 97, 116, 58, 32, 115, 104, 97, 112, 101])]))
def laid_concordat_api_ErrName {H : Type} : DataW H := .iface "*errors.errorString" (.ptr (.agg [.lit (.string [99, 111, 110, 99, 111, 114, 100, 97, 116, 58, 32, 110, 97, 109, 101])]))
def laid_concordat_api_ErrKind {H : Type} : DataW H := .iface "*errors.errorString" (.ptr (.agg [.lit (.string [99, 111, 110, 99, 111, 114, 100, 97, 116, 58, 32, 107, 105, 110, 100])]))
def laid_math_bits_deBruijn32tab {H : Type} : DataW H := .agg [.lit (.int .u8 0), .lit (.int .u8 1), .lit (.int .u8 28), .lit (.int .u8 2), .lit (.int .u8 29), .lit (.int .u8 14), .lit (.int .u8 24), .lit (.int .u8 3), .lit (.int .u8 30), .lit (.int .u8 22), .lit (.int .u8 20), .lit (.int .u8 15), .lit (.int .u8 25), .lit (.int .u8 17), .lit (.int .u8 4), .lit (.int .u8 8), .lit (.int .u8 31), .lit (.int .u8 27), .lit (.int .u8 13), .lit (.int .u8 23), .lit (.int .u8 21), .lit (.int .u8 19), .lit (.int .u8 16), .lit (.int .u8 7), .lit (.int .u8 26), .lit (.int .u8 12), .lit (.int .u8 18), .lit (.int .u8 6), .lit (.int .u8 11), .lit (.int .u8 5), .lit (.int .u8 10), .lit (.int .u8 9)]
def laid_math_bits_deBruijn64tab {H : Type} : DataW H := .agg [.lit (.int .u8 0), .lit (.int .u8 1), .lit (.int .u8 56), .lit (.int .u8 2), .lit (.int .u8 57), .lit (.int .u8 49), .lit (.int .u8 28), .lit (.int .u8 3), .lit (.int .u8 61), .lit (.int .u8 58), .lit (.int .u8 42), .lit (.int .u8 50), .lit (.int .u8 38), .lit (.int .u8 29), .lit (.int .u8 17), .lit (.int .u8 4), .lit (.int .u8 62), .lit (.int .u8 47), .lit (.int .u8 59), .lit (.int .u8 36), .lit (.int .u8 45), .lit (.int .u8 43), .lit (.int .u8 51), .lit (.int .u8 22), .lit (.int .u8 53), .lit (.int .u8 39), .lit (.int .u8 33), .lit (.int .u8 30), .lit (.int .u8 24), .lit (.int .u8 18), .lit (.int .u8 12), .lit (.int .u8 5), .lit (.int .u8 63), .lit (.int .u8 55), .lit (.int .u8 48), .lit (.int .u8 27), .lit (.int .u8 60), .lit (.int .u8 41), .lit (.int .u8 37), .lit (.int .u8 16), .lit (.int .u8 46), .lit (.int .u8 35), .lit (.int .u8 44), .lit (.int .u8 21), .lit (.int .u8 52), .lit (.int .u8 32), .lit (.int .u8 23), .lit (.int .u8 11), .lit (.int .u8 54), .lit (.int .u8 26), .lit (.int .u8 40), .lit (.int .u8 15), .lit (.int .u8 34), .lit (.int .u8 20), .lit (.int .u8 31), .lit (.int .u8 10), .lit (.int .u8 25), .lit (.int .u8 14), .lit (.int .u8 19), .lit (.int .u8 9), .lit (.int .u8 13), .lit (.int .u8 8), .lit (.int .u8 7), .lit (.int .u8 6)]
def laid_internal_strconv_uint64pow10 {H : Type} : DataW H := .agg [.lit (.int .u64 1), .lit (.int .u64 10), .lit (.int .u64 100), .lit (.int .u64 1000), .lit (.int .u64 10000), .lit (.int .u64 100000), .lit (.int .u64 1000000), .lit (.int .u64 10000000), .lit (.int .u64 100000000), .lit (.int .u64 1000000000), .lit (.int .u64 10000000000), .lit (.int .u64 100000000000), .lit (.int .u64 1000000000000), .lit (.int .u64 10000000000000), .lit (.int .u64 100000000000000), .lit (.int .u64 1000000000000000), .lit (.int .u64 10000000000000000), .lit (.int .u64 100000000000000000), .lit (.int .u64 1000000000000000000), .lit (.int .u64 10000000000000000000)]
def laid_concordat_api_ErrExist {H : Type} : DataW H := .iface "*errors.errorString" (.ptr (.agg [.lit (.string [99, 111, 110, 99, 111, 114, 100, 97, 116, 58, 32, 101, 120, 105, 115, 116])]))
def laid_errors_errorType {H : Type} : DataW H := .iface "internal/reflectlite.rtype" (.agg [.ptr (.lit (.string [101, 114, 114, 111, 114]))])
def laid_concordat_api_ErrText {H : Type} : DataW H := .iface "*errors.errorString" (.ptr (.agg [.lit (.string [99, 111, 110, 99, 111, 114, 100, 97, 116, 58, 32, 116, 101, 120, 116])]))
def laid_concordat_api_ErrNone {H : Type} : DataW H := .iface "*errors.errorString" (.ptr (.agg [.lit (.string [99, 111, 110, 99, 111, 114, 100, 97, 116, 58, 32, 110, 111, 110, 101])]))
def laid_concordat_api_ErrFull {H : Type} : DataW H := .iface "*errors.errorString" (.ptr (.agg [.lit (.string [99, 111, 110, 99, 111, 114, 100, 97, 116, 58, 32, 102, 117, 108, 108])]))
def laid_concordat_api_ErrGap {H : Type} : DataW H := .iface "*errors.errorString" (.ptr (.agg [.lit (.string [99, 111, 110, 99, 111, 114, 100, 97, 116, 58, 32, 103, 97, 112])]))
def laid_concordat_api_ErrCycle {H : Type} : DataW H := .iface "*errors.errorString" (.ptr (.agg [.lit (.string [99, 111, 110, 99, 111, 114, 100, 97, 116, 58, 32, 99, 121, 99, 108, 101])]))
def laid_concordat_api_ErrOff {H : Type} : DataW H := .iface "*errors.errorString" (.ptr (.agg [.lit (.string [99, 111, 110, 99, 111, 114, 100, 97, 116, 58, 32, 111, 102, 102])]))
def laid_concordat_api_ErrSum {H : Type} : DataW H := .iface "*errors.errorString" (.ptr (.agg [.lit (.string [99, 111, 110, 99, 111, 114, 100, 97, 116, 58, 32, 115, 117, 109])]))
def laid_unicode_utf8_acceptRanges {H : Type} : DataW H := .agg [.agg [.lit (.int .u8 128), .lit (.int .u8 191)], .agg [.lit (.int .u8 160), .lit (.int .u8 191)], .agg [.lit (.int .u8 128), .lit (.int .u8 159)], .agg [.lit (.int .u8 144), .lit (.int .u8 191)], .agg [.lit (.int .u8 128), .lit (.int .u8 143)], .agg [.lit (.int .u8 0), .lit (.int .u8 0)], .agg [.lit (.int .u8 0), .lit (.int .u8 0)], .agg [.lit (.int .u8 0), .lit (.int .u8 0)], .agg [.lit (.int .u8 0), .lit (.int .u8 0)], .agg [.lit (.int .u8 0), .lit (.int .u8 0)], .agg [.lit (.int .u8 0), .lit (.int .u8 0)], .agg [.lit (.int .u8 0), .lit (.int .u8 0)], .agg [.lit (.int .u8 0), .lit (.int .u8 0)], .agg [.lit (.int .u8 0), .lit (.int .u8 0)], .agg [.lit (.int .u8 0), .lit (.int .u8 0)], .agg [.lit (.int .u8 0), .lit (.int .u8 0)]]
def laid_strconv_ErrRange {H : Type} : DataW H := .iface "*errors.errorString" (.ptr (.agg [.lit (.string [118, 97, 108, 117, 101, 32, 111, 117, 116, 32, 111, 102, 32, 114, 97, 110, 103, 101])]))
def laid_strconv_ErrSyntax {H : Type} : DataW H := .iface "*errors.errorString" (.ptr (.agg [.lit (.string [105, 110, 118, 97, 108, 105, 100, 32, 115, 121, 110, 116, 97, 120])]))
/-- One of Go's own tables, pinned by name: the form's constant. -/
def laid_unicode_utf8_first : DataW Unit := Go.Pinned.utf8First

/-- 'concordatlaw1.CellsJoins': WHATEVER THE INPUT: true; the input reads as it did. -/
def cellsJoinsSpec : ChangeSpec := { name := "cellsJoins", fn := fun _ => fun
  | [d1, d2] => { results := [.lit (.bool true)], args := [d1, d2] }
  | _ => none }
def cellsJoinsRow : OpenClaim := { program := "ytneggbhjekklhaadoor", sum := "513cbadb9959f89e76fde7eb4f3fc4f743a3419dadf95774747e2a5b4e727c3a", func := "concordat/concordatlaw1.CellsJoins", spec := "cellsJoins", inPlace := ["internal/bytealg.IndexByteString"], unfollowed := true, recurses := true, named := ["concordat/api.ErrKind", "concordat/api.ErrBound", "concordat/api.ErrShape", "concordat/api.ErrName"], plainKeys := false, apart := false, laid := [("concordat/api.ErrBound", laid_concordat_api_ErrBound), ("concordat/api.ErrShape", laid_concordat_api_ErrShape), ("concordat/api.ErrName", laid_concordat_api_ErrName), ("concordat/api.ErrKind", laid_concordat_api_ErrKind)] }
def CellsJoinsSaid : Prop := cellsJoinsRow.holds Tryd.pinned (OpenSpec.ofChange cellsJoinsSpec)

/-- ITS FALSE NEIGHBOUR: 'it returns false'. Refute it at one input. -/
def cellsJoinsWrong : ChangeSpec := { name := "cellsJoins", fn := fun _ => fun
  | [d1, d2] => { results := [.lit (.bool false)], args := [d1, d2] }
  | _ => none }
def CellsJoinsWrongFalsely : Prop := cellsJoinsRow.holds Tryd.pinned (OpenSpec.ofChange cellsJoinsWrong)

/-- 'concordatlaw1.OpSorts': WHATEVER THE INPUT: true; the input reads as it did. -/
def opSortsSpec : ChangeSpec := { name := "opSorts", fn := fun _ => fun
  | [d] => { results := [.lit (.bool true)], args := [d] }
  | _ => none }
def opSortsRow : OpenClaim := { program := "ytneggbhjekklhaadoor", sum := "513cbadb9959f89e76fde7eb4f3fc4f743a3419dadf95774747e2a5b4e727c3a", func := "concordat/concordatlaw1.OpSorts", spec := "opSorts", inPlace := ["internal/bytealg.IndexByteString", "internal/abi.NoEscape", "internal/bytealg.MakeNoZero"], unfollowed := true, recurses := true, named := ["concordat/api.ErrBound", "concordat/api.ErrKind", "concordat/api.ErrShape", "concordat/api.ErrName", "internal/strconv.uint64pow10", "math/bits.deBruijn32tab", "math/bits.deBruijn64tab"], plainKeys := false, apart := false, laid := [("math/bits.deBruijn32tab", laid_math_bits_deBruijn32tab), ("math/bits.deBruijn64tab", laid_math_bits_deBruijn64tab), ("internal/strconv.uint64pow10", laid_internal_strconv_uint64pow10), ("concordat/api.ErrBound", laid_concordat_api_ErrBound), ("concordat/api.ErrShape", laid_concordat_api_ErrShape), ("concordat/api.ErrName", laid_concordat_api_ErrName), ("concordat/api.ErrKind", laid_concordat_api_ErrKind)] }
def OpSortsSaid : Prop := opSortsRow.holds Tryd.pinned (OpenSpec.ofChange opSortsSpec)

/-- ITS FALSE NEIGHBOUR: 'it returns false'. Refute it at one input. -/
def opSortsWrong : ChangeSpec := { name := "opSorts", fn := fun _ => fun
  | [d] => { results := [.lit (.bool false)], args := [d] }
  | _ => none }
def OpSortsWrongFalsely : Prop := opSortsRow.holds Tryd.pinned (OpenSpec.ofChange opSortsWrong)

/-- 'concordatlaw1.TreeTurned': WHATEVER THE INPUT: true; the input reads as it did. -/
def treeTurnedSpec : ChangeSpec := { name := "treeTurned", fn := fun _ => fun
  | [d1, d2] => { results := [.lit (.bool true)], args := [d1, d2] }
  | _ => none }
def treeTurnedRow : OpenClaim := { program := "ytneggbhjekklhaadoor", sum := "513cbadb9959f89e76fde7eb4f3fc4f743a3419dadf95774747e2a5b4e727c3a", func := "concordat/concordatlaw1.TreeTurned", spec := "treeTurned", inPlace := ["internal/bytealg.IndexByteString"], unfollowed := true, recurses := true, named := ["concordat/api.ErrKind", "concordat/api.ErrExist", "concordat/api.ErrBound", "concordat/api.ErrShape", "concordat/api.ErrName"], plainKeys := false, apart := false, laid := [("concordat/api.ErrBound", laid_concordat_api_ErrBound), ("concordat/api.ErrShape", laid_concordat_api_ErrShape), ("concordat/api.ErrName", laid_concordat_api_ErrName), ("concordat/api.ErrKind", laid_concordat_api_ErrKind), ("concordat/api.ErrExist", laid_concordat_api_ErrExist)] }
def TreeTurnedSaid : Prop := treeTurnedRow.holds Tryd.pinned (OpenSpec.ofChange treeTurnedSpec)

/-- ITS FALSE NEIGHBOUR: 'it returns false'. Refute it at one input. -/
def treeTurnedWrong : ChangeSpec := { name := "treeTurned", fn := fun _ => fun
  | [d1, d2] => { results := [.lit (.bool false)], args := [d1, d2] }
  | _ => none }
def TreeTurnedWrongFalsely : Prop := treeTurnedRow.holds Tryd.pinned (OpenSpec.ofChange treeTurnedWrong)

/-- 'concordatlaw1.CellsSets': WHATEVER THE INPUT: true; the input reads as it did. -/
def cellsSetsSpec : ChangeSpec := { name := "cellsSets", fn := fun _ => fun
  | [d1, d2, d3] => { results := [.lit (.bool true)], args := [d1, d2, d3] }
  | _ => none }
def cellsSetsRow : OpenClaim := { program := "ytneggbhjekklhaadoor", sum := "513cbadb9959f89e76fde7eb4f3fc4f743a3419dadf95774747e2a5b4e727c3a", func := "concordat/concordatlaw1.CellsSets", spec := "cellsSets", inPlace := ["internal/bytealg.IndexByteString", "internal/reflectlite.ValueOf", "(internal/reflectlite.Value).Type", "(internal/reflectlite.Value).IsNil", "internal/reflectlite.TypeOf", "(internal/reflectlite.Value).Elem", "(internal/reflectlite.Value).Set"], unfollowed := true, recurses := true, named := ["concordat/api.ErrKind", "concordat/api.ErrBound", "concordat/api.ErrShape", "concordat/api.ErrName", "concordat/api.ErrText", "concordat/api.ErrNone", "concordat/api.ErrExist", "concordat/api.ErrFull", "concordat/api.ErrGap", "concordat/api.ErrCycle", "concordat/api.ErrOff", "concordat/api.ErrSum", "errors.errorType"], plainKeys := false, apart := false, laid := [("errors.errorType", laid_errors_errorType), ("concordat/api.ErrText", laid_concordat_api_ErrText), ("concordat/api.ErrBound", laid_concordat_api_ErrBound), ("concordat/api.ErrShape", laid_concordat_api_ErrShape), ("concordat/api.ErrName", laid_concordat_api_ErrName), ("concordat/api.ErrKind", laid_concordat_api_ErrKind), ("concordat/api.ErrNone", laid_concordat_api_ErrNone), ("concordat/api.ErrExist", laid_concordat_api_ErrExist), ("concordat/api.ErrFull", laid_concordat_api_ErrFull), ("concordat/api.ErrGap", laid_concordat_api_ErrGap), ("concordat/api.ErrCycle", laid_concordat_api_ErrCycle), ("concordat/api.ErrOff", laid_concordat_api_ErrOff), ("concordat/api.ErrSum", laid_concordat_api_ErrSum)] }
def CellsSetsSaid : Prop := cellsSetsRow.holds Tryd.pinned (OpenSpec.ofChange cellsSetsSpec)

/-- ITS FALSE NEIGHBOUR: 'it returns false'. Refute it at one input. -/
def cellsSetsWrong : ChangeSpec := { name := "cellsSets", fn := fun _ => fun
  | [d1, d2, d3] => { results := [.lit (.bool false)], args := [d1, d2, d3] }
  | _ => none }
def CellsSetsWrongFalsely : Prop := cellsSetsRow.holds Tryd.pinned (OpenSpec.ofChange cellsSetsWrong)

/-- 'concordatlaw1.TreeMoves': WHATEVER THE INPUT: true; the input reads as it did. -/
def treeMovesSpec : ChangeSpec := { name := "treeMoves", fn := fun _ => fun
  | [d1, d2, d3] => { results := [.lit (.bool true)], args := [d1, d2, d3] }
  | _ => none }
def treeMovesRow : OpenClaim := { program := "ytneggbhjekklhaadoor", sum := "513cbadb9959f89e76fde7eb4f3fc4f743a3419dadf95774747e2a5b4e727c3a", func := "concordat/concordatlaw1.TreeMoves", spec := "treeMoves", inPlace := ["internal/bytealg.IndexByteString", "internal/reflectlite.ValueOf", "(internal/reflectlite.Value).Type", "(internal/reflectlite.Value).IsNil", "internal/reflectlite.TypeOf", "(internal/reflectlite.Value).Elem", "(internal/reflectlite.Value).Set"], unfollowed := true, recurses := true, named := ["concordat/api.ErrKind", "concordat/api.ErrExist", "concordat/api.ErrBound", "concordat/api.ErrShape", "concordat/api.ErrName", "concordat/api.ErrText", "concordat/api.ErrNone", "concordat/api.ErrFull", "concordat/api.ErrGap", "concordat/api.ErrCycle", "concordat/api.ErrOff", "concordat/api.ErrSum", "errors.errorType"], plainKeys := false, apart := false, laid := [("errors.errorType", laid_errors_errorType), ("concordat/api.ErrText", laid_concordat_api_ErrText), ("concordat/api.ErrBound", laid_concordat_api_ErrBound), ("concordat/api.ErrShape", laid_concordat_api_ErrShape), ("concordat/api.ErrName", laid_concordat_api_ErrName), ("concordat/api.ErrKind", laid_concordat_api_ErrKind), ("concordat/api.ErrNone", laid_concordat_api_ErrNone), ("concordat/api.ErrExist", laid_concordat_api_ErrExist), ("concordat/api.ErrFull", laid_concordat_api_ErrFull), ("concordat/api.ErrGap", laid_concordat_api_ErrGap), ("concordat/api.ErrCycle", laid_concordat_api_ErrCycle), ("concordat/api.ErrOff", laid_concordat_api_ErrOff), ("concordat/api.ErrSum", laid_concordat_api_ErrSum)] }
def TreeMovesSaid : Prop := treeMovesRow.holds Tryd.pinned (OpenSpec.ofChange treeMovesSpec)

/-- ITS FALSE NEIGHBOUR: 'it returns false'. Refute it at one input. -/
def treeMovesWrong : ChangeSpec := { name := "treeMoves", fn := fun _ => fun
  | [d1, d2, d3] => { results := [.lit (.bool false)], args := [d1, d2, d3] }
  | _ => none }
def TreeMovesWrongFalsely : Prop := treeMovesRow.holds Tryd.pinned (OpenSpec.ofChange treeMovesWrong)

/-- 'concordatlaw1.OpApart': WHATEVER THE INPUT: true; the input reads as it did. -/
def opApartSpec : ChangeSpec := { name := "opApart", fn := fun _ => fun
  | [d1, d2] => { results := [.lit (.bool true)], args := [d1, d2] }
  | _ => none }
def opApartRow : OpenClaim := { program := "ytneggbhjekklhaadoor", sum := "513cbadb9959f89e76fde7eb4f3fc4f743a3419dadf95774747e2a5b4e727c3a", func := "concordat/concordatlaw1.OpApart", spec := "opApart", inPlace := ["internal/bytealg.IndexByteString", "internal/abi.NoEscape", "internal/bytealg.MakeNoZero", "internal/bytealg.CountString", "internal/bytealg.IndexString"], unfollowed := true, recurses := true, named := ["concordat/api.ErrBound", "concordat/api.ErrKind", "concordat/api.ErrShape", "concordat/api.ErrName", "internal/strconv.uint64pow10", "math/bits.deBruijn32tab", "math/bits.deBruijn64tab", "concordat/api.ErrText", "unicode/utf8.first", "unicode/utf8.acceptRanges", "internal/bytealg.MaxLen", "strconv.ErrSyntax", "strconv.ErrRange"], plainKeys := false, apart := false, laid := [("math/bits.deBruijn32tab", laid_math_bits_deBruijn32tab), ("math/bits.deBruijn64tab", laid_math_bits_deBruijn64tab), ("internal/strconv.uint64pow10", laid_internal_strconv_uint64pow10), ("unicode/utf8.acceptRanges", laid_unicode_utf8_acceptRanges), ("concordat/api.ErrText", laid_concordat_api_ErrText), ("concordat/api.ErrBound", laid_concordat_api_ErrBound), ("concordat/api.ErrShape", laid_concordat_api_ErrShape), ("concordat/api.ErrName", laid_concordat_api_ErrName), ("concordat/api.ErrKind", laid_concordat_api_ErrKind), ("strconv.ErrRange", laid_strconv_ErrRange), ("strconv.ErrSyntax", laid_strconv_ErrSyntax), ("unicode/utf8.first", laid_unicode_utf8_first)] }
def OpApartSaid : Prop := opApartRow.holds Tryd.pinned (OpenSpec.ofChange opApartSpec)

/-- ITS FALSE NEIGHBOUR: 'it returns false'. Refute it at one input. -/
def opApartWrong : ChangeSpec := { name := "opApart", fn := fun _ => fun
  | [d1, d2] => { results := [.lit (.bool false)], args := [d1, d2] }
  | _ => none }
def OpApartWrongFalsely : Prop := opApartRow.holds Tryd.pinned (OpenSpec.ofChange opApartWrong)

/- THE SECOND FORM. 'bulk': how many values and letters a reading holds, each counted each time it is reached (what is shared counts as often as it is met; a slice's spare places count too). A statement '..UptoSaid' is the law's where the arguments, and the package variables that the reading takes, are together of bulk at most 1048576: NARROWER than '..Said'. Prove '..Said' where nothing that the law and all that it calls make is longer than what came in: it says more and counts as full. Else prove '..UptoSaid'. A law counts once. -/
mutual
def uptoBulk {H : Type} : DataW H → Nat
  | .lit (.string bytes) => bytes.length + 1
  | .lit _ => 1
  | .nil => 1
  | .ptr d => uptoBulk d + 1
  | .slice elems spare => uptoBulkAll elems + uptoBulkAll spare + 1
  | .agg parts => uptoBulkAll parts + 1
  | .iface _ d => uptoBulk d + 1
  | .map entries => uptoBulkEntries entries + 1
  | .held _ => 1
def uptoBulkAll {H : Type} : List (DataW H) → Nat
  | [] => 0
  | d :: r => uptoBulk d + uptoBulkAll r
def uptoBulkEntries {H : Type} : List (Lit × DataW H) → Nat
  | [] => 0
  | x :: r => uptoBulkEntry x + uptoBulkEntries r
def uptoBulkEntry {H : Type} : Lit × DataW H → Nat
  | (.string bytes, d) => bytes.length + uptoBulk d + 1
  | (_, d) => uptoBulk d + 1
 end
def uptoSmall : (H : Type) → List (DataW H) → Bool := fun _ ds => decide (uptoBulkAll ds ≤ 1048576)
def OpenSpec.upto (s : _root_.Go.ChangeSpec) : _root_.Go.OpenSpec := { _root_.Go.OpenSpec.ofChange s with cond := some uptoSmall }

/-- 'concordatlaw1.CellsJoins', WHERE WHAT IT READS IS OF BULK AT MOST 1048576: true; the input reads as it did. -/
def cellsJoinsUptoRow : OpenClaim := { program := "ytneggbhjekklhaadoor", sum := "513cbadb9959f89e76fde7eb4f3fc4f743a3419dadf95774747e2a5b4e727c3a", func := "concordat/concordatlaw1.CellsJoins", spec := "cellsJoins", inPlace := ["internal/bytealg.IndexByteString"], unfollowed := true, recurses := true, named := ["concordat/api.ErrKind", "concordat/api.ErrBound", "concordat/api.ErrShape", "concordat/api.ErrName"], plainKeys := false, apart := false, laid := [("concordat/api.ErrBound", laid_concordat_api_ErrBound), ("concordat/api.ErrShape", laid_concordat_api_ErrShape), ("concordat/api.ErrName", laid_concordat_api_ErrName), ("concordat/api.ErrKind", laid_concordat_api_ErrKind)], narrowed := true }
def CellsJoinsUptoSaid : Prop := cellsJoinsUptoRow.holds Tryd.pinned (OpenSpec.upto cellsJoinsSpec)

/-- 'concordatlaw1.OpSorts', WHERE WHAT IT READS IS OF BULK AT MOST 1048576: true; the input reads as it did. -/
def opSortsUptoRow : OpenClaim := { program := "ytneggbhjekklhaadoor", sum := "513cbadb9959f89e76fde7eb4f3fc4f743a3419dadf95774747e2a5b4e727c3a", func := "concordat/concordatlaw1.OpSorts", spec := "opSorts", inPlace := ["internal/bytealg.IndexByteString", "internal/abi.NoEscape", "internal/bytealg.MakeNoZero"], unfollowed := true, recurses := true, named := ["concordat/api.ErrBound", "concordat/api.ErrKind", "concordat/api.ErrShape", "concordat/api.ErrName", "internal/strconv.uint64pow10", "math/bits.deBruijn32tab", "math/bits.deBruijn64tab"], plainKeys := false, apart := false, laid := [("math/bits.deBruijn32tab", laid_math_bits_deBruijn32tab), ("math/bits.deBruijn64tab", laid_math_bits_deBruijn64tab), ("internal/strconv.uint64pow10", laid_internal_strconv_uint64pow10), ("concordat/api.ErrBound", laid_concordat_api_ErrBound), ("concordat/api.ErrShape", laid_concordat_api_ErrShape), ("concordat/api.ErrName", laid_concordat_api_ErrName), ("concordat/api.ErrKind", laid_concordat_api_ErrKind)], narrowed := true }
def OpSortsUptoSaid : Prop := opSortsUptoRow.holds Tryd.pinned (OpenSpec.upto opSortsSpec)

/-- 'concordatlaw1.TreeTurned', WHERE WHAT IT READS IS OF BULK AT MOST 1048576: true; the input reads as it did. -/
def treeTurnedUptoRow : OpenClaim := { program := "ytneggbhjekklhaadoor", sum := "513cbadb9959f89e76fde7eb4f3fc4f743a3419dadf95774747e2a5b4e727c3a", func := "concordat/concordatlaw1.TreeTurned", spec := "treeTurned", inPlace := ["internal/bytealg.IndexByteString"], unfollowed := true, recurses := true, named := ["concordat/api.ErrKind", "concordat/api.ErrExist", "concordat/api.ErrBound", "concordat/api.ErrShape", "concordat/api.ErrName"], plainKeys := false, apart := false, laid := [("concordat/api.ErrBound", laid_concordat_api_ErrBound), ("concordat/api.ErrShape", laid_concordat_api_ErrShape), ("concordat/api.ErrName", laid_concordat_api_ErrName), ("concordat/api.ErrKind", laid_concordat_api_ErrKind), ("concordat/api.ErrExist", laid_concordat_api_ErrExist)], narrowed := true }
def TreeTurnedUptoSaid : Prop := treeTurnedUptoRow.holds Tryd.pinned (OpenSpec.upto treeTurnedSpec)

/-- 'concordatlaw1.CellsSets', WHERE WHAT IT READS IS OF BULK AT MOST 1048576: true; the input reads as it did. -/
def cellsSetsUptoRow : OpenClaim := { program := "ytneggbhjekklhaadoor", sum := "513cbadb9959f89e76fde7eb4f3fc4f743a3419dadf95774747e2a5b4e727c3a", func := "concordat/concordatlaw1.CellsSets", spec := "cellsSets", inPlace := ["internal/bytealg.IndexByteString", "internal/reflectlite.ValueOf", "(internal/reflectlite.Value).Type", "(internal/reflectlite.Value).IsNil", "internal/reflectlite.TypeOf", "(internal/reflectlite.Value).Elem", "(internal/reflectlite.Value).Set"], unfollowed := true, recurses := true, named := ["concordat/api.ErrKind", "concordat/api.ErrBound", "concordat/api.ErrShape", "concordat/api.ErrName", "concordat/api.ErrText", "concordat/api.ErrNone", "concordat/api.ErrExist", "concordat/api.ErrFull", "concordat/api.ErrGap", "concordat/api.ErrCycle", "concordat/api.ErrOff", "concordat/api.ErrSum", "errors.errorType"], plainKeys := false, apart := false, laid := [("errors.errorType", laid_errors_errorType), ("concordat/api.ErrText", laid_concordat_api_ErrText), ("concordat/api.ErrBound", laid_concordat_api_ErrBound), ("concordat/api.ErrShape", laid_concordat_api_ErrShape), ("concordat/api.ErrName", laid_concordat_api_ErrName), ("concordat/api.ErrKind", laid_concordat_api_ErrKind), ("concordat/api.ErrNone", laid_concordat_api_ErrNone), ("concordat/api.ErrExist", laid_concordat_api_ErrExist), ("concordat/api.ErrFull", laid_concordat_api_ErrFull), ("concordat/api.ErrGap", laid_concordat_api_ErrGap), ("concordat/api.ErrCycle", laid_concordat_api_ErrCycle), ("concordat/api.ErrOff", laid_concordat_api_ErrOff), ("concordat/api.ErrSum", laid_concordat_api_ErrSum)], narrowed := true }
def CellsSetsUptoSaid : Prop := cellsSetsUptoRow.holds Tryd.pinned (OpenSpec.upto cellsSetsSpec)

/-- 'concordatlaw1.TreeMoves', WHERE WHAT IT READS IS OF BULK AT MOST 1048576: true; the input reads as it did. -/
def treeMovesUptoRow : OpenClaim := { program := "ytneggbhjekklhaadoor", sum := "513cbadb9959f89e76fde7eb4f3fc4f743a3419dadf95774747e2a5b4e727c3a", func := "concordat/concordatlaw1.TreeMoves", spec := "treeMoves", inPlace := ["internal/bytealg.IndexByteString", "internal/reflectlite.ValueOf", "(internal/reflectlite.Value).Type", "(internal/reflectlite.Value).IsNil", "internal/reflectlite.TypeOf", "(internal/reflectlite.Value).Elem", "(internal/reflectlite.Value).Set"], unfollowed := true, recurses := true, named := ["concordat/api.ErrKind", "concordat/api.ErrExist", "concordat/api.ErrBound", "concordat/api.ErrShape", "concordat/api.ErrName", "concordat/api.ErrText", "concordat/api.ErrNone", "concordat/api.ErrFull", "concordat/api.ErrGap", "concordat/api.ErrCycle", "concordat/api.ErrOff", "concordat/api.ErrSum", "errors.errorType"], plainKeys := false, apart := false, laid := [("errors.errorType", laid_errors_errorType), ("concordat/api.ErrText", laid_concordat_api_ErrText), ("concordat/api.ErrBound", laid_concordat_api_ErrBound), ("concordat/api.ErrShape", laid_concordat_api_ErrShape), ("concordat/api.ErrName", laid_concordat_api_ErrName), ("concordat/api.ErrKind", laid_concordat_api_ErrKind), ("concordat/api.ErrNone", laid_concordat_api_ErrNone), ("concordat/api.ErrExist", laid_concordat_api_ErrExist), ("concordat/api.ErrFull", laid_concordat_api_ErrFull), ("concordat/api.ErrGap", laid_concordat_api_ErrGap), ("concordat/api.ErrCycle", laid_concordat_api_ErrCycle), ("concordat/api.ErrOff", laid_concordat_api_ErrOff), ("concordat/api.ErrSum", laid_concordat_api_ErrSum)], narrowed := true }
def TreeMovesUptoSaid : Prop := treeMovesUptoRow.holds Tryd.pinned (OpenSpec.upto treeMovesSpec)

/-- 'concordatlaw1.OpApart', WHERE WHAT IT READS IS OF BULK AT MOST 1048576: true; the input reads as it did. -/
def opApartUptoRow : OpenClaim := { program := "ytneggbhjekklhaadoor", sum := "513cbadb9959f89e76fde7eb4f3fc4f743a3419dadf95774747e2a5b4e727c3a", func := "concordat/concordatlaw1.OpApart", spec := "opApart", inPlace := ["internal/bytealg.IndexByteString", "internal/abi.NoEscape", "internal/bytealg.MakeNoZero", "internal/bytealg.CountString", "internal/bytealg.IndexString"], unfollowed := true, recurses := true, named := ["concordat/api.ErrBound", "concordat/api.ErrKind", "concordat/api.ErrShape", "concordat/api.ErrName", "internal/strconv.uint64pow10", "math/bits.deBruijn32tab", "math/bits.deBruijn64tab", "concordat/api.ErrText", "unicode/utf8.first", "unicode/utf8.acceptRanges", "internal/bytealg.MaxLen", "strconv.ErrSyntax", "strconv.ErrRange"], plainKeys := false, apart := false, laid := [("math/bits.deBruijn32tab", laid_math_bits_deBruijn32tab), ("math/bits.deBruijn64tab", laid_math_bits_deBruijn64tab), ("internal/strconv.uint64pow10", laid_internal_strconv_uint64pow10), ("unicode/utf8.acceptRanges", laid_unicode_utf8_acceptRanges), ("concordat/api.ErrText", laid_concordat_api_ErrText), ("concordat/api.ErrBound", laid_concordat_api_ErrBound), ("concordat/api.ErrShape", laid_concordat_api_ErrShape), ("concordat/api.ErrName", laid_concordat_api_ErrName), ("concordat/api.ErrKind", laid_concordat_api_ErrKind), ("strconv.ErrRange", laid_strconv_ErrRange), ("strconv.ErrSyntax", laid_strconv_ErrSyntax), ("unicode/utf8.first", laid_unicode_utf8_first)], narrowed := true }
def OpApartUptoSaid : Prop := opApartUptoRow.holds Tryd.pinned (OpenSpec.upto opApartSpec)

end Rows
end Go.Proofs.YtneggbhjekklhaaDoor
