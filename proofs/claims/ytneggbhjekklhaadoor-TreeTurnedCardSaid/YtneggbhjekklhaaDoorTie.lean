/-
  DERIVED. GIVEN WITH THE SEED: THE PROGRAM's TIES (one call each: nine closed facts by the kernel) AND EACH ROW's TIE, after the 31st guide's Derived/Test/Toyas{Tie, Card}.lean. No idea stands in it: it is a product of the set-up. Laid BY PROGRAM, IN A SANDBOX (cutbox-door.mjs). By AI agents, Wed Nov 11 2026. No macro, syntax, notation, axiom, sorry.
-/
import Derived.Test.YtneggbhjekklhaaDoorRows
import Derived.LaidByTextLater
import Derived.SevenTiedAt
import Derived.LaidSub
import Derived.LaidOnce
namespace Go.Proofs.YtneggbhjekklhaaDoor
open Go
set_option maxRecDepth 100000
theorem seatTie1 : Tryd.prog.laidByTextLater [("math/bits.deBruijn32tab", Rows.laid_math_bits_deBruijn32tab), ("math/bits.deBruijn64tab", Rows.laid_math_bits_deBruijn64tab), ("internal/strconv.uint64pow10", Rows.laid_internal_strconv_uint64pow10), ("unicode/utf8.acceptRanges", Rows.laid_unicode_utf8_acceptRanges), ("errors.errorType", Rows.laid_errors_errorType), ("concordat/api.ErrText", Rows.laid_concordat_api_ErrText), ("concordat/api.ErrBound", Rows.laid_concordat_api_ErrBound), ("concordat/api.ErrShape", Rows.laid_concordat_api_ErrShape), ("concordat/api.ErrName", Rows.laid_concordat_api_ErrName), ("concordat/api.ErrKind", Rows.laid_concordat_api_ErrKind), ("concordat/api.ErrNone", Rows.laid_concordat_api_ErrNone), ("concordat/api.ErrExist", Rows.laid_concordat_api_ErrExist), ("concordat/api.ErrFull", Rows.laid_concordat_api_ErrFull), ("concordat/api.ErrGap", Rows.laid_concordat_api_ErrGap), ("concordat/api.ErrCycle", Rows.laid_concordat_api_ErrCycle), ("concordat/api.ErrOff", Rows.laid_concordat_api_ErrOff), ("concordat/api.ErrSum", Rows.laid_concordat_api_ErrSum), ("strconv.ErrRange", Rows.laid_strconv_ErrRange), ("strconv.ErrSyntax", Rows.laid_strconv_ErrSyntax)] [.data, .data, .data, .data, .handle, .sentinel, .sentinel, .sentinel, .sentinel, .sentinel, .sentinel, .sentinel, .sentinel, .sentinel, .sentinel, .sentinel, .sentinel, .sentinel, .sentinel] true :=
  Program.laidByTextLater_by_one 307 8 65 (by kernel_rfl) (by kernel_rfl) (by kernel_rfl) (by kernel_rfl) (by kernel_rfl) (by kernel_rfl) (fun _ _ => by kernel_rfl)
theorem pin_laid_unicode_utf8_first : Tryd.pinned.checked.prog.pinnedFits "unicode/utf8.first" = true := by kernel_rfl
theorem noOwnUnsafe : Tryd.pinned.checked.prog.headLifts.contains "ownunsafe" = false := by kernel_rfl
theorem tie : Tryd.prog.laidByTextLater [("concordat/api.ErrBound", Rows.laid_concordat_api_ErrBound), ("concordat/api.ErrShape", Rows.laid_concordat_api_ErrShape), ("concordat/api.ErrName", Rows.laid_concordat_api_ErrName), ("concordat/api.ErrKind", Rows.laid_concordat_api_ErrKind)] [.sentinel, .sentinel, .sentinel, .sentinel] true :=
  Program.laidByTextLater.sub seatTie1 ["concordat/api.ErrBound", "concordat/api.ErrShape", "concordat/api.ErrName", "concordat/api.ErrKind"] (by kernel_rfl) (by kernel_rfl)
theorem cellsJoins_row_tie : Rows.cellsJoinsRow.laidByTextAt .later Tryd.pinned [.sentinel, .sentinel, .sentinel, .sentinel] true :=
  OpenClaim.laidByTextAt_later rfl rfl tie noOwnUnsafe
theorem tie2 : Tryd.prog.laidByTextLater [("math/bits.deBruijn32tab", Rows.laid_math_bits_deBruijn32tab), ("math/bits.deBruijn64tab", Rows.laid_math_bits_deBruijn64tab), ("internal/strconv.uint64pow10", Rows.laid_internal_strconv_uint64pow10), ("concordat/api.ErrBound", Rows.laid_concordat_api_ErrBound), ("concordat/api.ErrShape", Rows.laid_concordat_api_ErrShape), ("concordat/api.ErrName", Rows.laid_concordat_api_ErrName), ("concordat/api.ErrKind", Rows.laid_concordat_api_ErrKind)] [.data, .data, .data, .sentinel, .sentinel, .sentinel, .sentinel] true :=
  Program.laidByTextLater.sub seatTie1 ["math/bits.deBruijn32tab", "math/bits.deBruijn64tab", "internal/strconv.uint64pow10", "concordat/api.ErrBound", "concordat/api.ErrShape", "concordat/api.ErrName", "concordat/api.ErrKind"] (by kernel_rfl) (by kernel_rfl)
theorem opSorts_row_tie : Rows.opSortsRow.laidByTextAt .later Tryd.pinned [.data, .data, .data, .sentinel, .sentinel, .sentinel, .sentinel] true :=
  OpenClaim.laidByTextAt_later rfl rfl tie2 noOwnUnsafe
theorem tie3 : Tryd.prog.laidByTextLater [("concordat/api.ErrBound", Rows.laid_concordat_api_ErrBound), ("concordat/api.ErrShape", Rows.laid_concordat_api_ErrShape), ("concordat/api.ErrName", Rows.laid_concordat_api_ErrName), ("concordat/api.ErrKind", Rows.laid_concordat_api_ErrKind), ("concordat/api.ErrExist", Rows.laid_concordat_api_ErrExist)] [.sentinel, .sentinel, .sentinel, .sentinel, .sentinel] true :=
  Program.laidByTextLater.sub seatTie1 ["concordat/api.ErrBound", "concordat/api.ErrShape", "concordat/api.ErrName", "concordat/api.ErrKind", "concordat/api.ErrExist"] (by kernel_rfl) (by kernel_rfl)
theorem treeTurned_row_tie : Rows.treeTurnedRow.laidByTextAt .later Tryd.pinned [.sentinel, .sentinel, .sentinel, .sentinel, .sentinel] true :=
  OpenClaim.laidByTextAt_later rfl rfl tie3 noOwnUnsafe
theorem tie4 : Tryd.prog.laidByTextLater [("errors.errorType", Rows.laid_errors_errorType), ("concordat/api.ErrText", Rows.laid_concordat_api_ErrText), ("concordat/api.ErrBound", Rows.laid_concordat_api_ErrBound), ("concordat/api.ErrShape", Rows.laid_concordat_api_ErrShape), ("concordat/api.ErrName", Rows.laid_concordat_api_ErrName), ("concordat/api.ErrKind", Rows.laid_concordat_api_ErrKind), ("concordat/api.ErrNone", Rows.laid_concordat_api_ErrNone), ("concordat/api.ErrExist", Rows.laid_concordat_api_ErrExist), ("concordat/api.ErrFull", Rows.laid_concordat_api_ErrFull), ("concordat/api.ErrGap", Rows.laid_concordat_api_ErrGap), ("concordat/api.ErrCycle", Rows.laid_concordat_api_ErrCycle), ("concordat/api.ErrOff", Rows.laid_concordat_api_ErrOff), ("concordat/api.ErrSum", Rows.laid_concordat_api_ErrSum)] [.handle, .sentinel, .sentinel, .sentinel, .sentinel, .sentinel, .sentinel, .sentinel, .sentinel, .sentinel, .sentinel, .sentinel, .sentinel] true :=
  Program.laidByTextLater.sub seatTie1 ["errors.errorType", "concordat/api.ErrText", "concordat/api.ErrBound", "concordat/api.ErrShape", "concordat/api.ErrName", "concordat/api.ErrKind", "concordat/api.ErrNone", "concordat/api.ErrExist", "concordat/api.ErrFull", "concordat/api.ErrGap", "concordat/api.ErrCycle", "concordat/api.ErrOff", "concordat/api.ErrSum"] (by kernel_rfl) (by kernel_rfl)
theorem cellsSets_row_tie : Rows.cellsSetsRow.laidByTextAt .later Tryd.pinned [.handle, .sentinel, .sentinel, .sentinel, .sentinel, .sentinel, .sentinel, .sentinel, .sentinel, .sentinel, .sentinel, .sentinel, .sentinel] true :=
  OpenClaim.laidByTextAt_later rfl rfl tie4 noOwnUnsafe
theorem treeMoves_row_tie : Rows.treeMovesRow.laidByTextAt .later Tryd.pinned [.handle, .sentinel, .sentinel, .sentinel, .sentinel, .sentinel, .sentinel, .sentinel, .sentinel, .sentinel, .sentinel, .sentinel, .sentinel] true :=
  OpenClaim.laidByTextAt_later rfl rfl tie4 noOwnUnsafe
theorem fits5 : Tryd.pinned.checked.prog.listedFits [("math/bits.deBruijn32tab", Rows.laid_math_bits_deBruijn32tab), ("math/bits.deBruijn64tab", Rows.laid_math_bits_deBruijn64tab), ("internal/strconv.uint64pow10", Rows.laid_internal_strconv_uint64pow10), ("unicode/utf8.acceptRanges", Rows.laid_unicode_utf8_acceptRanges), ("concordat/api.ErrText", Rows.laid_concordat_api_ErrText), ("concordat/api.ErrBound", Rows.laid_concordat_api_ErrBound), ("concordat/api.ErrShape", Rows.laid_concordat_api_ErrShape), ("concordat/api.ErrName", Rows.laid_concordat_api_ErrName), ("concordat/api.ErrKind", Rows.laid_concordat_api_ErrKind), ("strconv.ErrRange", Rows.laid_strconv_ErrRange), ("strconv.ErrSyntax", Rows.laid_strconv_ErrSyntax), ("unicode/utf8.first", Rows.laid_unicode_utf8_first)] = true := by
  unfold Program.listedFits
  rw [noOwnUnsafe]
  kernel_rfl
theorem tie5 : Tryd.prog.laidByTextLater [("math/bits.deBruijn32tab", Rows.laid_math_bits_deBruijn32tab), ("math/bits.deBruijn64tab", Rows.laid_math_bits_deBruijn64tab), ("internal/strconv.uint64pow10", Rows.laid_internal_strconv_uint64pow10), ("unicode/utf8.acceptRanges", Rows.laid_unicode_utf8_acceptRanges), ("concordat/api.ErrText", Rows.laid_concordat_api_ErrText), ("concordat/api.ErrBound", Rows.laid_concordat_api_ErrBound), ("concordat/api.ErrShape", Rows.laid_concordat_api_ErrShape), ("concordat/api.ErrName", Rows.laid_concordat_api_ErrName), ("concordat/api.ErrKind", Rows.laid_concordat_api_ErrKind), ("strconv.ErrRange", Rows.laid_strconv_ErrRange), ("strconv.ErrSyntax", Rows.laid_strconv_ErrSyntax)] [.data, .data, .data, .data, .sentinel, .sentinel, .sentinel, .sentinel, .sentinel, .sentinel, .sentinel] true :=
  Program.laidByTextLater.sub seatTie1 ["math/bits.deBruijn32tab", "math/bits.deBruijn64tab", "internal/strconv.uint64pow10", "unicode/utf8.acceptRanges", "concordat/api.ErrText", "concordat/api.ErrBound", "concordat/api.ErrShape", "concordat/api.ErrName", "concordat/api.ErrKind", "strconv.ErrRange", "strconv.ErrSyntax"] (by kernel_rfl) (by kernel_rfl)
theorem opApart_row_tie : Rows.opApartRow.laidByTextAt .later Tryd.pinned [.data, .data, .data, .data, .sentinel, .sentinel, .sentinel, .sentinel, .sentinel, .sentinel, .sentinel, .pinned] true :=
  OpenClaim.laidByTextAt_pinned rfl rfl tie5 rfl rfl rfl rfl (fun y hy _e => by
    simp only [Rows.opApartRow, List.zip_cons_cons, List.zip_nil_right, List.mem_cons, List.mem_nil_iff, or_false] at hy
    rcases hy with rfl | rfl | rfl | rfl | rfl | rfl | rfl | rfl | rfl | rfl | rfl | rfl
    · cases _e
    · cases _e
    · cases _e
    · cases _e
    · cases _e
    · cases _e
    · cases _e
    · cases _e
    · cases _e
    · cases _e
    · cases _e
    · exact ⟨pin_laid_unicode_utf8_first, by kernel_rfl⟩) fits5
theorem cellsJoinsUpto_row_tie : Rows.cellsJoinsUptoRow.laidByTextAt .later Tryd.pinned [.sentinel, .sentinel, .sentinel, .sentinel] true :=
  OpenClaim.laidByTextAt_later rfl rfl tie noOwnUnsafe
theorem opSortsUpto_row_tie : Rows.opSortsUptoRow.laidByTextAt .later Tryd.pinned [.data, .data, .data, .sentinel, .sentinel, .sentinel, .sentinel] true :=
  OpenClaim.laidByTextAt_later rfl rfl tie2 noOwnUnsafe
theorem treeTurnedUpto_row_tie : Rows.treeTurnedUptoRow.laidByTextAt .later Tryd.pinned [.sentinel, .sentinel, .sentinel, .sentinel, .sentinel] true :=
  OpenClaim.laidByTextAt_later rfl rfl tie3 noOwnUnsafe
theorem cellsSetsUpto_row_tie : Rows.cellsSetsUptoRow.laidByTextAt .later Tryd.pinned [.handle, .sentinel, .sentinel, .sentinel, .sentinel, .sentinel, .sentinel, .sentinel, .sentinel, .sentinel, .sentinel, .sentinel, .sentinel] true :=
  OpenClaim.laidByTextAt_later rfl rfl tie4 noOwnUnsafe
theorem treeMovesUpto_row_tie : Rows.treeMovesUptoRow.laidByTextAt .later Tryd.pinned [.handle, .sentinel, .sentinel, .sentinel, .sentinel, .sentinel, .sentinel, .sentinel, .sentinel, .sentinel, .sentinel, .sentinel, .sentinel] true :=
  OpenClaim.laidByTextAt_later rfl rfl tie4 noOwnUnsafe
theorem opApartUpto_row_tie : Rows.opApartUptoRow.laidByTextAt .later Tryd.pinned [.data, .data, .data, .data, .sentinel, .sentinel, .sentinel, .sentinel, .sentinel, .sentinel, .sentinel, .pinned] true :=
  OpenClaim.laidByTextAt_pinned rfl rfl tie5 rfl rfl rfl rfl (fun y hy _e => by
    simp only [Rows.opApartUptoRow, List.zip_cons_cons, List.zip_nil_right, List.mem_cons, List.mem_nil_iff, or_false] at hy
    rcases hy with rfl | rfl | rfl | rfl | rfl | rfl | rfl | rfl | rfl | rfl | rfl | rfl
    · cases _e
    · cases _e
    · cases _e
    · cases _e
    · cases _e
    · cases _e
    · cases _e
    · cases _e
    · cases _e
    · cases _e
    · cases _e
    · exact ⟨pin_laid_unicode_utf8_first, by kernel_rfl⟩) fits5
end Go.Proofs.YtneggbhjekklhaaDoor
