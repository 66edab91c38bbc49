/-
  DERIVED. GIVEN WITH THE SEED: THE PROGRAM's TIES (one call each: nine closed facts by the kernel) AND EACH ROW's TIE, after the 31st guide's Derived/Test/Toyas{Tie, Card}.lean. No idea stands in it: it is a product of the set-up. Laid BY PROGRAM, IN A SANDBOX (cutbox-door.mjs). By AI agents, Wed Nov 11 2026. No macro, syntax, notation, axiom, sorry.
-/
import Derived.Test.YtjekalilfhnpmaaGreatDoorRows
import Derived.LaidByTextLater
import Derived.SevenTiedAt
import Derived.LaidSub
import Derived.LaidOnce
namespace Go.Proofs.YtjekalilfhnpmaaGreatDoor
open Go
set_option maxRecDepth 100000
theorem seatTie1 : Tryz.prog.laidByTextLater [("math/bits.deBruijn32tab", Rows.laid_math_bits_deBruijn32tab), ("math/bits.deBruijn64tab", Rows.laid_math_bits_deBruijn64tab), ("internal/strconv.uint64pow10", Rows.laid_internal_strconv_uint64pow10), ("unicode/utf8.acceptRanges", Rows.laid_unicode_utf8_acceptRanges), ("errors.errorType", Rows.laid_errors_errorType), ("concordat/api.ErrText", Rows.laid_concordat_api_ErrText), ("concordat/api.ErrBound", Rows.laid_concordat_api_ErrBound), ("concordat/api.ErrShape", Rows.laid_concordat_api_ErrShape), ("concordat/api.ErrName", Rows.laid_concordat_api_ErrName), ("concordat/api.ErrKind", Rows.laid_concordat_api_ErrKind), ("concordat/api.ErrNone", Rows.laid_concordat_api_ErrNone), ("concordat/api.ErrExist", Rows.laid_concordat_api_ErrExist), ("concordat/api.ErrFull", Rows.laid_concordat_api_ErrFull), ("concordat/api.ErrGap", Rows.laid_concordat_api_ErrGap), ("concordat/api.ErrCycle", Rows.laid_concordat_api_ErrCycle), ("concordat/api.ErrOff", Rows.laid_concordat_api_ErrOff), ("concordat/api.ErrSum", Rows.laid_concordat_api_ErrSum)] [.data, .data, .data, .data, .handle, .sentinel, .sentinel, .sentinel, .sentinel, .sentinel, .sentinel, .sentinel, .sentinel, .sentinel, .sentinel, .sentinel, .sentinel] true :=
  Program.laidByTextLater_by_one 269 8 65 (by kernel_rfl) (by kernel_rfl) (by kernel_rfl) (by kernel_rfl) (by kernel_rfl) (by kernel_rfl) (fun _ _ => by kernel_rfl)
theorem pin_laid_unicode_utf8_first : Tryz.pinned.checked.prog.pinnedFits "unicode/utf8.first" = true := by kernel_rfl
theorem noOwnUnsafe : Tryz.pinned.checked.prog.headLifts.contains "ownunsafe" = false := by kernel_rfl
theorem tie : Tryz.prog.laidByTextLater [("math/bits.deBruijn32tab", Rows.laid_math_bits_deBruijn32tab), ("math/bits.deBruijn64tab", Rows.laid_math_bits_deBruijn64tab), ("internal/strconv.uint64pow10", Rows.laid_internal_strconv_uint64pow10), ("concordat/api.ErrBound", Rows.laid_concordat_api_ErrBound), ("concordat/api.ErrShape", Rows.laid_concordat_api_ErrShape), ("concordat/api.ErrName", Rows.laid_concordat_api_ErrName), ("concordat/api.ErrKind", Rows.laid_concordat_api_ErrKind), ("concordat/api.ErrNone", Rows.laid_concordat_api_ErrNone), ("concordat/api.ErrExist", Rows.laid_concordat_api_ErrExist), ("concordat/api.ErrFull", Rows.laid_concordat_api_ErrFull), ("concordat/api.ErrGap", Rows.laid_concordat_api_ErrGap)] [.data, .data, .data, .sentinel, .sentinel, .sentinel, .sentinel, .sentinel, .sentinel, .sentinel, .sentinel] true :=
  Program.laidByTextLater.sub seatTie1 ["math/bits.deBruijn32tab", "math/bits.deBruijn64tab", "internal/strconv.uint64pow10", "concordat/api.ErrBound", "concordat/api.ErrShape", "concordat/api.ErrName", "concordat/api.ErrKind", "concordat/api.ErrNone", "concordat/api.ErrExist", "concordat/api.ErrFull", "concordat/api.ErrGap"] (by kernel_rfl) (by kernel_rfl)
theorem replicaWrites_row_tie : Rows.replicaWritesRow.laidByTextAt .later Tryz.pinned [.data, .data, .data, .sentinel, .sentinel, .sentinel, .sentinel, .sentinel, .sentinel, .sentinel, .sentinel] true :=
  OpenClaim.laidByTextAt_later rfl rfl tie noOwnUnsafe
theorem tie2 : Tryz.prog.laidByTextLater [("math/bits.deBruijn32tab", Rows.laid_math_bits_deBruijn32tab), ("math/bits.deBruijn64tab", Rows.laid_math_bits_deBruijn64tab), ("internal/strconv.uint64pow10", Rows.laid_internal_strconv_uint64pow10), ("concordat/api.ErrBound", Rows.laid_concordat_api_ErrBound), ("concordat/api.ErrShape", Rows.laid_concordat_api_ErrShape), ("concordat/api.ErrName", Rows.laid_concordat_api_ErrName), ("concordat/api.ErrKind", Rows.laid_concordat_api_ErrKind), ("concordat/api.ErrNone", Rows.laid_concordat_api_ErrNone), ("concordat/api.ErrExist", Rows.laid_concordat_api_ErrExist), ("concordat/api.ErrFull", Rows.laid_concordat_api_ErrFull), ("concordat/api.ErrGap", Rows.laid_concordat_api_ErrGap), ("concordat/api.ErrCycle", Rows.laid_concordat_api_ErrCycle)] [.data, .data, .data, .sentinel, .sentinel, .sentinel, .sentinel, .sentinel, .sentinel, .sentinel, .sentinel, .sentinel] true :=
  Program.laidByTextLater.sub seatTie1 ["math/bits.deBruijn32tab", "math/bits.deBruijn64tab", "internal/strconv.uint64pow10", "concordat/api.ErrBound", "concordat/api.ErrShape", "concordat/api.ErrName", "concordat/api.ErrKind", "concordat/api.ErrNone", "concordat/api.ErrExist", "concordat/api.ErrFull", "concordat/api.ErrGap", "concordat/api.ErrCycle"] (by kernel_rfl) (by kernel_rfl)
theorem replicaMeets_row_tie : Rows.replicaMeetsRow.laidByTextAt .later Tryz.pinned [.data, .data, .data, .sentinel, .sentinel, .sentinel, .sentinel, .sentinel, .sentinel, .sentinel, .sentinel, .sentinel] true :=
  OpenClaim.laidByTextAt_later rfl rfl tie2 noOwnUnsafe
theorem fits3 : Tryz.pinned.checked.prog.listedFits [("math/bits.deBruijn32tab", Rows.laid_math_bits_deBruijn32tab), ("math/bits.deBruijn64tab", Rows.laid_math_bits_deBruijn64tab), ("internal/strconv.uint64pow10", Rows.laid_internal_strconv_uint64pow10), ("unicode/utf8.acceptRanges", Rows.laid_unicode_utf8_acceptRanges), ("concordat/api.ErrBound", Rows.laid_concordat_api_ErrBound), ("concordat/api.ErrShape", Rows.laid_concordat_api_ErrShape), ("concordat/api.ErrName", Rows.laid_concordat_api_ErrName), ("concordat/api.ErrKind", Rows.laid_concordat_api_ErrKind), ("concordat/api.ErrNone", Rows.laid_concordat_api_ErrNone), ("concordat/api.ErrExist", Rows.laid_concordat_api_ErrExist), ("concordat/api.ErrFull", Rows.laid_concordat_api_ErrFull), ("concordat/api.ErrGap", Rows.laid_concordat_api_ErrGap), ("concordat/api.ErrCycle", Rows.laid_concordat_api_ErrCycle), ("unicode/utf8.first", Rows.laid_unicode_utf8_first)] = true := by
  unfold Program.listedFits
  rw [noOwnUnsafe]
  kernel_rfl
theorem tie3 : Tryz.prog.laidByTextLater [("math/bits.deBruijn32tab", Rows.laid_math_bits_deBruijn32tab), ("math/bits.deBruijn64tab", Rows.laid_math_bits_deBruijn64tab), ("internal/strconv.uint64pow10", Rows.laid_internal_strconv_uint64pow10), ("unicode/utf8.acceptRanges", Rows.laid_unicode_utf8_acceptRanges), ("concordat/api.ErrBound", Rows.laid_concordat_api_ErrBound), ("concordat/api.ErrShape", Rows.laid_concordat_api_ErrShape), ("concordat/api.ErrName", Rows.laid_concordat_api_ErrName), ("concordat/api.ErrKind", Rows.laid_concordat_api_ErrKind), ("concordat/api.ErrNone", Rows.laid_concordat_api_ErrNone), ("concordat/api.ErrExist", Rows.laid_concordat_api_ErrExist), ("concordat/api.ErrFull", Rows.laid_concordat_api_ErrFull), ("concordat/api.ErrGap", Rows.laid_concordat_api_ErrGap), ("concordat/api.ErrCycle", Rows.laid_concordat_api_ErrCycle)] [.data, .data, .data, .data, .sentinel, .sentinel, .sentinel, .sentinel, .sentinel, .sentinel, .sentinel, .sentinel, .sentinel] true :=
  Program.laidByTextLater.sub seatTie1 ["math/bits.deBruijn32tab", "math/bits.deBruijn64tab", "internal/strconv.uint64pow10", "unicode/utf8.acceptRanges", "concordat/api.ErrBound", "concordat/api.ErrShape", "concordat/api.ErrName", "concordat/api.ErrKind", "concordat/api.ErrNone", "concordat/api.ErrExist", "concordat/api.ErrFull", "concordat/api.ErrGap", "concordat/api.ErrCycle"] (by kernel_rfl) (by kernel_rfl)
theorem viewShows_row_tie : Rows.viewShowsRow.laidByTextAt .later Tryz.pinned [.data, .data, .data, .data, .sentinel, .sentinel, .sentinel, .sentinel, .sentinel, .sentinel, .sentinel, .sentinel, .sentinel, .pinned] true :=
  OpenClaim.laidByTextAt_pinned rfl rfl tie3 rfl rfl rfl rfl (fun y hy _e => by
    simp only [Rows.viewShowsRow, List.zip_cons_cons, List.zip_nil_right, List.mem_cons, List.mem_nil_iff, or_false] at hy
    rcases hy with rfl | rfl | rfl | rfl | rfl | rfl | rfl | rfl | rfl | rfl | rfl | rfl | rfl | rfl
    · cases _e
    · cases _e
    · cases _e
    · cases _e
    · cases _e
    · cases _e
    · cases _e
    · cases _e
    · cases _e
    · cases _e
    · cases _e
    · cases _e
    · cases _e
    · exact ⟨pin_laid_unicode_utf8_first, by kernel_rfl⟩) fits3
theorem viewPaths_row_tie : Rows.viewPathsRow.laidByTextAt .later Tryz.pinned [.data, .data, .data, .data, .sentinel, .sentinel, .sentinel, .sentinel, .sentinel, .sentinel, .sentinel, .sentinel, .sentinel, .pinned] true :=
  OpenClaim.laidByTextAt_pinned rfl rfl tie3 rfl rfl rfl rfl (fun y hy _e => by
    simp only [Rows.viewPathsRow, List.zip_cons_cons, List.zip_nil_right, List.mem_cons, List.mem_nil_iff, or_false] at hy
    rcases hy with rfl | rfl | rfl | rfl | rfl | rfl | rfl | rfl | rfl | rfl | rfl | rfl | rfl | rfl
    · cases _e
    · cases _e
    · cases _e
    · cases _e
    · cases _e
    · cases _e
    · cases _e
    · cases _e
    · cases _e
    · cases _e
    · cases _e
    · cases _e
    · cases _e
    · exact ⟨pin_laid_unicode_utf8_first, by kernel_rfl⟩) fits3
theorem tie4 : Tryz.prog.laidByTextLater [("math/bits.deBruijn32tab", Rows.laid_math_bits_deBruijn32tab), ("math/bits.deBruijn64tab", Rows.laid_math_bits_deBruijn64tab), ("internal/strconv.uint64pow10", Rows.laid_internal_strconv_uint64pow10), ("errors.errorType", Rows.laid_errors_errorType), ("concordat/api.ErrText", Rows.laid_concordat_api_ErrText), ("concordat/api.ErrBound", Rows.laid_concordat_api_ErrBound), ("concordat/api.ErrShape", Rows.laid_concordat_api_ErrShape), ("concordat/api.ErrName", Rows.laid_concordat_api_ErrName), ("concordat/api.ErrKind", Rows.laid_concordat_api_ErrKind), ("concordat/api.ErrNone", Rows.laid_concordat_api_ErrNone), ("concordat/api.ErrExist", Rows.laid_concordat_api_ErrExist), ("concordat/api.ErrFull", Rows.laid_concordat_api_ErrFull), ("concordat/api.ErrGap", Rows.laid_concordat_api_ErrGap), ("concordat/api.ErrCycle", Rows.laid_concordat_api_ErrCycle), ("concordat/api.ErrOff", Rows.laid_concordat_api_ErrOff), ("concordat/api.ErrSum", Rows.laid_concordat_api_ErrSum)] [.data, .data, .data, .handle, .sentinel, .sentinel, .sentinel, .sentinel, .sentinel, .sentinel, .sentinel, .sentinel, .sentinel, .sentinel, .sentinel, .sentinel] true :=
  Program.laidByTextLater.sub seatTie1 ["math/bits.deBruijn32tab", "math/bits.deBruijn64tab", "internal/strconv.uint64pow10", "errors.errorType", "concordat/api.ErrText", "concordat/api.ErrBound", "concordat/api.ErrShape", "concordat/api.ErrName", "concordat/api.ErrKind", "concordat/api.ErrNone", "concordat/api.ErrExist", "concordat/api.ErrFull", "concordat/api.ErrGap", "concordat/api.ErrCycle", "concordat/api.ErrOff", "concordat/api.ErrSum"] (by kernel_rfl) (by kernel_rfl)
theorem replicaParts_row_tie : Rows.replicaPartsRow.laidByTextAt .later Tryz.pinned [.data, .data, .data, .handle, .sentinel, .sentinel, .sentinel, .sentinel, .sentinel, .sentinel, .sentinel, .sentinel, .sentinel, .sentinel, .sentinel, .sentinel] true :=
  OpenClaim.laidByTextAt_later rfl rfl tie4 noOwnUnsafe
theorem replicaActs_row_tie : Rows.replicaActsRow.laidByTextAt .later Tryz.pinned [.data, .data, .data, .handle, .sentinel, .sentinel, .sentinel, .sentinel, .sentinel, .sentinel, .sentinel, .sentinel, .sentinel, .sentinel, .sentinel, .sentinel] true :=
  OpenClaim.laidByTextAt_later rfl rfl tie4 noOwnUnsafe
theorem replicaWritesUpto_row_tie : Rows.replicaWritesUptoRow.laidByTextAt .later Tryz.pinned [.data, .data, .data, .sentinel, .sentinel, .sentinel, .sentinel, .sentinel, .sentinel, .sentinel, .sentinel] true :=
  OpenClaim.laidByTextAt_later rfl rfl tie noOwnUnsafe
theorem replicaMeetsUpto_row_tie : Rows.replicaMeetsUptoRow.laidByTextAt .later Tryz.pinned [.data, .data, .data, .sentinel, .sentinel, .sentinel, .sentinel, .sentinel, .sentinel, .sentinel, .sentinel, .sentinel] true :=
  OpenClaim.laidByTextAt_later rfl rfl tie2 noOwnUnsafe
theorem viewShowsUpto_row_tie : Rows.viewShowsUptoRow.laidByTextAt .later Tryz.pinned [.data, .data, .data, .data, .sentinel, .sentinel, .sentinel, .sentinel, .sentinel, .sentinel, .sentinel, .sentinel, .sentinel, .pinned] true :=
  OpenClaim.laidByTextAt_pinned rfl rfl tie3 rfl rfl rfl rfl (fun y hy _e => by
    simp only [Rows.viewShowsUptoRow, List.zip_cons_cons, List.zip_nil_right, List.mem_cons, List.mem_nil_iff, or_false] at hy
    rcases hy with rfl | rfl | rfl | rfl | rfl | rfl | rfl | rfl | rfl | rfl | rfl | rfl | rfl | rfl
    · cases _e
    · cases _e
    · cases _e
    · cases _e
    · cases _e
    · cases _e
    · cases _e
    · cases _e
    · cases _e
    · cases _e
    · cases _e
    · cases _e
    · cases _e
    · exact ⟨pin_laid_unicode_utf8_first, by kernel_rfl⟩) fits3
theorem viewPathsUpto_row_tie : Rows.viewPathsUptoRow.laidByTextAt .later Tryz.pinned [.data, .data, .data, .data, .sentinel, .sentinel, .sentinel, .sentinel, .sentinel, .sentinel, .sentinel, .sentinel, .sentinel, .pinned] true :=
  OpenClaim.laidByTextAt_pinned rfl rfl tie3 rfl rfl rfl rfl (fun y hy _e => by
    simp only [Rows.viewPathsUptoRow, List.zip_cons_cons, List.zip_nil_right, List.mem_cons, List.mem_nil_iff, or_false] at hy
    rcases hy with rfl | rfl | rfl | rfl | rfl | rfl | rfl | rfl | rfl | rfl | rfl | rfl | rfl | rfl
    · cases _e
    · cases _e
    · cases _e
    · cases _e
    · cases _e
    · cases _e
    · cases _e
    · cases _e
    · cases _e
    · cases _e
    · cases _e
    · cases _e
    · cases _e
    · exact ⟨pin_laid_unicode_utf8_first, by kernel_rfl⟩) fits3
theorem replicaPartsUpto_row_tie : Rows.replicaPartsUptoRow.laidByTextAt .later Tryz.pinned [.data, .data, .data, .handle, .sentinel, .sentinel, .sentinel, .sentinel, .sentinel, .sentinel, .sentinel, .sentinel, .sentinel, .sentinel, .sentinel, .sentinel] true :=
  OpenClaim.laidByTextAt_later rfl rfl tie4 noOwnUnsafe
theorem replicaActsUpto_row_tie : Rows.replicaActsUptoRow.laidByTextAt .later Tryz.pinned [.data, .data, .data, .handle, .sentinel, .sentinel, .sentinel, .sentinel, .sentinel, .sentinel, .sentinel, .sentinel, .sentinel, .sentinel, .sentinel, .sentinel] true :=
  OpenClaim.laidByTextAt_later rfl rfl tie4 noOwnUnsafe
end Go.Proofs.YtjekalilfhnpmaaGreatDoor
