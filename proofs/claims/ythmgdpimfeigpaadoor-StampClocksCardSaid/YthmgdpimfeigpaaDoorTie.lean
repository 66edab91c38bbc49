/-
  DERIVED. GIVEN WITH THE SEED: THE PROGRAM's TIES (one call each: nine closed facts by the kernel) AND EACH ROW's TIE, after the 31st guide's Derived/Test/Toyas{Tie, Card}.lean. No idea stands in it: it is a product of the set-up. Laid BY PROGRAM, IN A SANDBOX (cutbox-door.mjs). By AI agents, Wed Nov 11 2026. No macro, syntax, notation, axiom, sorry.
-/
import Derived.Test.YthmgdpimfeigpaaDoorRows
import Derived.LaidByTextLater
import Derived.SevenTiedAt
import Derived.LaidSub
import Derived.LaidOnce
namespace Go.Proofs.YthmgdpimfeigpaaDoor
open Go
set_option maxRecDepth 100000
theorem seatTie1 : Tryd.prog.laidByTextLater [("math/bits.deBruijn32tab", Rows.laid_math_bits_deBruijn32tab), ("math/bits.deBruijn64tab", Rows.laid_math_bits_deBruijn64tab), ("internal/strconv.uint64pow10", Rows.laid_internal_strconv_uint64pow10), ("errors.errorType", Rows.laid_errors_errorType), ("concordat/api.ErrText", Rows.laid_concordat_api_ErrText), ("concordat/api.ErrBound", Rows.laid_concordat_api_ErrBound), ("concordat/api.ErrShape", Rows.laid_concordat_api_ErrShape), ("concordat/api.ErrName", Rows.laid_concordat_api_ErrName), ("concordat/api.ErrKind", Rows.laid_concordat_api_ErrKind), ("concordat/api.ErrNone", Rows.laid_concordat_api_ErrNone), ("concordat/api.ErrExist", Rows.laid_concordat_api_ErrExist), ("concordat/api.ErrFull", Rows.laid_concordat_api_ErrFull), ("concordat/api.ErrGap", Rows.laid_concordat_api_ErrGap), ("concordat/api.ErrCycle", Rows.laid_concordat_api_ErrCycle), ("concordat/api.ErrOff", Rows.laid_concordat_api_ErrOff), ("concordat/api.ErrSum", Rows.laid_concordat_api_ErrSum)] [.data, .data, .data, .handle, .sentinel, .sentinel, .sentinel, .sentinel, .sentinel, .sentinel, .sentinel, .sentinel, .sentinel, .sentinel, .sentinel, .sentinel] true :=
  Program.laidByTextLater_by_one 259 8 65 (by kernel_rfl) (by kernel_rfl) (by kernel_rfl) (by kernel_rfl) (by kernel_rfl) (by kernel_rfl) (fun _ _ => by kernel_rfl)
theorem noOwnUnsafe : Tryd.pinned.checked.prog.headLifts.contains "ownunsafe" = false := by kernel_rfl
theorem tie : Tryd.prog.laidByTextLater [("concordat/api.ErrBound", Rows.laid_concordat_api_ErrBound)] [.sentinel] true :=
  Program.laidByTextLater.sub seatTie1 ["concordat/api.ErrBound"] (by kernel_rfl) (by kernel_rfl)
theorem stampIDs_row_tie : Rows.stampIDsRow.laidByTextAt .later Tryd.pinned [.sentinel] true :=
  OpenClaim.laidByTextAt_later rfl rfl tie noOwnUnsafe
theorem tie2 : Tryd.prog.laidByTextLater [("concordat/api.ErrShape", Rows.laid_concordat_api_ErrShape), ("concordat/api.ErrNone", Rows.laid_concordat_api_ErrNone), ("concordat/api.ErrExist", Rows.laid_concordat_api_ErrExist)] [.sentinel, .sentinel, .sentinel] true :=
  Program.laidByTextLater.sub seatTie1 ["concordat/api.ErrShape", "concordat/api.ErrNone", "concordat/api.ErrExist"] (by kernel_rfl) (by kernel_rfl)
theorem lineTurned_row_tie : Rows.lineTurnedRow.laidByTextAt .later Tryd.pinned [.sentinel, .sentinel, .sentinel] true :=
  OpenClaim.laidByTextAt_later rfl rfl tie2 noOwnUnsafe
theorem lineKeeps_row_tie : Rows.lineKeepsRow.laidByTextAt .later Tryd.pinned [.sentinel, .sentinel, .sentinel] true :=
  OpenClaim.laidByTextAt_later rfl rfl tie2 noOwnUnsafe
theorem tie3 : Tryd.prog.laidByTextLater [("errors.errorType", Rows.laid_errors_errorType), ("concordat/api.ErrText", Rows.laid_concordat_api_ErrText), ("concordat/api.ErrBound", Rows.laid_concordat_api_ErrBound), ("concordat/api.ErrShape", Rows.laid_concordat_api_ErrShape), ("concordat/api.ErrName", Rows.laid_concordat_api_ErrName), ("concordat/api.ErrKind", Rows.laid_concordat_api_ErrKind), ("concordat/api.ErrNone", Rows.laid_concordat_api_ErrNone), ("concordat/api.ErrExist", Rows.laid_concordat_api_ErrExist), ("concordat/api.ErrFull", Rows.laid_concordat_api_ErrFull), ("concordat/api.ErrGap", Rows.laid_concordat_api_ErrGap), ("concordat/api.ErrCycle", Rows.laid_concordat_api_ErrCycle), ("concordat/api.ErrOff", Rows.laid_concordat_api_ErrOff), ("concordat/api.ErrSum", Rows.laid_concordat_api_ErrSum)] [.handle, .sentinel, .sentinel, .sentinel, .sentinel, .sentinel, .sentinel, .sentinel, .sentinel, .sentinel, .sentinel, .sentinel, .sentinel] true :=
  Program.laidByTextLater.sub seatTie1 ["errors.errorType", "concordat/api.ErrText", "concordat/api.ErrBound", "concordat/api.ErrShape", "concordat/api.ErrName", "concordat/api.ErrKind", "concordat/api.ErrNone", "concordat/api.ErrExist", "concordat/api.ErrFull", "concordat/api.ErrGap", "concordat/api.ErrCycle", "concordat/api.ErrOff", "concordat/api.ErrSum"] (by kernel_rfl) (by kernel_rfl)
theorem names_row_tie : Rows.namesRow.laidByTextAt .later Tryd.pinned [.handle, .sentinel, .sentinel, .sentinel, .sentinel, .sentinel, .sentinel, .sentinel, .sentinel, .sentinel, .sentinel, .sentinel, .sentinel] true :=
  OpenClaim.laidByTextAt_later rfl rfl tie3 noOwnUnsafe
theorem stampOrders_row_tie : Rows.stampOrdersRow.laidByTextAt .later Tryd.pinned [.handle, .sentinel, .sentinel, .sentinel, .sentinel, .sentinel, .sentinel, .sentinel, .sentinel, .sentinel, .sentinel, .sentinel, .sentinel] true :=
  OpenClaim.laidByTextAt_later rfl rfl tie3 noOwnUnsafe
theorem stampClocks_row_tie : Rows.stampClocksRow.laidByTextAt .later Tryd.pinned [.handle, .sentinel, .sentinel, .sentinel, .sentinel, .sentinel, .sentinel, .sentinel, .sentinel, .sentinel, .sentinel, .sentinel, .sentinel] true :=
  OpenClaim.laidByTextAt_later rfl rfl tie3 noOwnUnsafe
theorem lineActs_row_tie : Rows.lineActsRow.laidByTextAt .later Tryd.pinned [.handle, .sentinel, .sentinel, .sentinel, .sentinel, .sentinel, .sentinel, .sentinel, .sentinel, .sentinel, .sentinel, .sentinel, .sentinel] true :=
  OpenClaim.laidByTextAt_later rfl rfl tie3 noOwnUnsafe
theorem tie4 : Tryd.prog.laidByTextLater [("math/bits.deBruijn32tab", Rows.laid_math_bits_deBruijn32tab), ("math/bits.deBruijn64tab", Rows.laid_math_bits_deBruijn64tab), ("internal/strconv.uint64pow10", Rows.laid_internal_strconv_uint64pow10), ("concordat/api.ErrBound", Rows.laid_concordat_api_ErrBound)] [.data, .data, .data, .sentinel] true :=
  Program.laidByTextLater.sub seatTie1 ["math/bits.deBruijn32tab", "math/bits.deBruijn64tab", "internal/strconv.uint64pow10", "concordat/api.ErrBound"] (by kernel_rfl) (by kernel_rfl)
theorem vectorJoins_row_tie : Rows.vectorJoinsRow.laidByTextAt .later Tryd.pinned [.data, .data, .data, .sentinel] true :=
  OpenClaim.laidByTextAt_later rfl rfl tie4 noOwnUnsafe
theorem tie5 : Tryd.prog.laidByTextLater [("concordat/api.ErrBound", Rows.laid_concordat_api_ErrBound), ("concordat/api.ErrShape", Rows.laid_concordat_api_ErrShape), ("concordat/api.ErrName", Rows.laid_concordat_api_ErrName), ("concordat/api.ErrKind", Rows.laid_concordat_api_ErrKind)] [.sentinel, .sentinel, .sentinel, .sentinel] true :=
  Program.laidByTextLater.sub seatTie1 ["concordat/api.ErrBound", "concordat/api.ErrShape", "concordat/api.ErrName", "concordat/api.ErrKind"] (by kernel_rfl) (by kernel_rfl)
theorem cellsJoins_row_tie : Rows.cellsJoinsRow.laidByTextAt .later Tryd.pinned [.sentinel, .sentinel, .sentinel, .sentinel] true :=
  OpenClaim.laidByTextAt_later rfl rfl tie5 noOwnUnsafe
theorem tie6 : Tryd.prog.laidByTextLater [("math/bits.deBruijn32tab", Rows.laid_math_bits_deBruijn32tab), ("math/bits.deBruijn64tab", Rows.laid_math_bits_deBruijn64tab), ("internal/strconv.uint64pow10", Rows.laid_internal_strconv_uint64pow10), ("concordat/api.ErrBound", Rows.laid_concordat_api_ErrBound), ("concordat/api.ErrShape", Rows.laid_concordat_api_ErrShape), ("concordat/api.ErrName", Rows.laid_concordat_api_ErrName), ("concordat/api.ErrKind", Rows.laid_concordat_api_ErrKind)] [.data, .data, .data, .sentinel, .sentinel, .sentinel, .sentinel] true :=
  Program.laidByTextLater.sub seatTie1 ["math/bits.deBruijn32tab", "math/bits.deBruijn64tab", "internal/strconv.uint64pow10", "concordat/api.ErrBound", "concordat/api.ErrShape", "concordat/api.ErrName", "concordat/api.ErrKind"] (by kernel_rfl) (by kernel_rfl)
theorem opSorts_row_tie : Rows.opSortsRow.laidByTextAt .later Tryd.pinned [.data, .data, .data, .sentinel, .sentinel, .sentinel, .sentinel] true :=
  OpenClaim.laidByTextAt_later rfl rfl tie6 noOwnUnsafe
theorem tie7 : Tryd.prog.laidByTextLater [("concordat/api.ErrBound", Rows.laid_concordat_api_ErrBound), ("concordat/api.ErrShape", Rows.laid_concordat_api_ErrShape), ("concordat/api.ErrName", Rows.laid_concordat_api_ErrName), ("concordat/api.ErrKind", Rows.laid_concordat_api_ErrKind), ("concordat/api.ErrExist", Rows.laid_concordat_api_ErrExist)] [.sentinel, .sentinel, .sentinel, .sentinel, .sentinel] true :=
  Program.laidByTextLater.sub seatTie1 ["concordat/api.ErrBound", "concordat/api.ErrShape", "concordat/api.ErrName", "concordat/api.ErrKind", "concordat/api.ErrExist"] (by kernel_rfl) (by kernel_rfl)
theorem treeTurned_row_tie : Rows.treeTurnedRow.laidByTextAt .later Tryd.pinned [.sentinel, .sentinel, .sentinel, .sentinel, .sentinel] true :=
  OpenClaim.laidByTextAt_later rfl rfl tie7 noOwnUnsafe
theorem stampIDsUpto_row_tie : Rows.stampIDsUptoRow.laidByTextAt .later Tryd.pinned [.sentinel] true :=
  OpenClaim.laidByTextAt_later rfl rfl tie noOwnUnsafe
theorem lineTurnedUpto_row_tie : Rows.lineTurnedUptoRow.laidByTextAt .later Tryd.pinned [.sentinel, .sentinel, .sentinel] true :=
  OpenClaim.laidByTextAt_later rfl rfl tie2 noOwnUnsafe
theorem lineKeepsUpto_row_tie : Rows.lineKeepsUptoRow.laidByTextAt .later Tryd.pinned [.sentinel, .sentinel, .sentinel] true :=
  OpenClaim.laidByTextAt_later rfl rfl tie2 noOwnUnsafe
theorem namesUpto_row_tie : Rows.namesUptoRow.laidByTextAt .later Tryd.pinned [.handle, .sentinel, .sentinel, .sentinel, .sentinel, .sentinel, .sentinel, .sentinel, .sentinel, .sentinel, .sentinel, .sentinel, .sentinel] true :=
  OpenClaim.laidByTextAt_later rfl rfl tie3 noOwnUnsafe
theorem stampOrdersUpto_row_tie : Rows.stampOrdersUptoRow.laidByTextAt .later Tryd.pinned [.handle, .sentinel, .sentinel, .sentinel, .sentinel, .sentinel, .sentinel, .sentinel, .sentinel, .sentinel, .sentinel, .sentinel, .sentinel] true :=
  OpenClaim.laidByTextAt_later rfl rfl tie3 noOwnUnsafe
theorem stampClocksUpto_row_tie : Rows.stampClocksUptoRow.laidByTextAt .later Tryd.pinned [.handle, .sentinel, .sentinel, .sentinel, .sentinel, .sentinel, .sentinel, .sentinel, .sentinel, .sentinel, .sentinel, .sentinel, .sentinel] true :=
  OpenClaim.laidByTextAt_later rfl rfl tie3 noOwnUnsafe
theorem vectorJoinsUpto_row_tie : Rows.vectorJoinsUptoRow.laidByTextAt .later Tryd.pinned [.data, .data, .data, .sentinel] true :=
  OpenClaim.laidByTextAt_later rfl rfl tie4 noOwnUnsafe
theorem lineActsUpto_row_tie : Rows.lineActsUptoRow.laidByTextAt .later Tryd.pinned [.handle, .sentinel, .sentinel, .sentinel, .sentinel, .sentinel, .sentinel, .sentinel, .sentinel, .sentinel, .sentinel, .sentinel, .sentinel] true :=
  OpenClaim.laidByTextAt_later rfl rfl tie3 noOwnUnsafe
theorem cellsJoinsUpto_row_tie : Rows.cellsJoinsUptoRow.laidByTextAt .later Tryd.pinned [.sentinel, .sentinel, .sentinel, .sentinel] true :=
  OpenClaim.laidByTextAt_later rfl rfl tie5 noOwnUnsafe
theorem opSortsUpto_row_tie : Rows.opSortsUptoRow.laidByTextAt .later Tryd.pinned [.data, .data, .data, .sentinel, .sentinel, .sentinel, .sentinel] true :=
  OpenClaim.laidByTextAt_later rfl rfl tie6 noOwnUnsafe
theorem treeTurnedUpto_row_tie : Rows.treeTurnedUptoRow.laidByTextAt .later Tryd.pinned [.sentinel, .sentinel, .sentinel, .sentinel, .sentinel] true :=
  OpenClaim.laidByTextAt_later rfl rfl tie7 noOwnUnsafe
end Go.Proofs.YthmgdpimfeigpaaDoor
