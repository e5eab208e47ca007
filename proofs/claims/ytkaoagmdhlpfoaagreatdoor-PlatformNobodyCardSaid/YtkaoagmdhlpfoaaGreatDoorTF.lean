/-
  The row's tie.
-/
import Derived.Test.YtkaoagmdhlpfoaaGreatDoorRows
import Derived.LaidByTextLater
import Derived.SevenTiedAt
import Derived.Test.YtkaoagmdhlpfoaaGreatDoorTA
import Derived.Test.YtkaoagmdhlpfoaaGreatDoorTB
import Derived.Test.YtkaoagmdhlpfoaaGreatDoorTC
import Derived.Test.YtkaoagmdhlpfoaaGreatDoorTD
import Derived.Test.YtkaoagmdhlpfoaaGreatDoorTE
namespace Go.Proofs.YtkaoagmdhlpfoaaGreatDoor
open Go
theorem pin_laid_unicode_utf8_first : Tryz.pinned.checked.prog.pinnedFits "unicode/utf8.first" = true := by kernel_rfl
theorem noOwnUnsafe : Tryz.pinned.checked.prog.headLifts.contains "ownunsafe" = false := by kernel_rfl
theorem fits1 : Tryz.pinned.checked.prog.listedFits [("strconv.ErrSyntax", Rows.laid_strconv_ErrSyntax), ("strconv.ErrRange", Rows.laid_strconv_ErrRange), ("internal/strconv.uint64pow10", Rows.laid_internal_strconv_uint64pow10), ("math/bits.deBruijn32tab", Rows.laid_math_bits_deBruijn32tab), ("math/bits.deBruijn64tab", Rows.laid_math_bits_deBruijn64tab), ("errors.errorType", Rows.laid_errors_errorType), ("blotter/digest.rounds", Rows.laid_blotter_digest_rounds), ("unicode/utf8.first", Rows.laid_unicode_utf8_first), ("unicode/utf8.acceptRanges", Rows.laid_unicode_utf8_acceptRanges)] = true := by
  unfold Program.listedFits
  rw [noOwnUnsafe]
  kernel_rfl
theorem tie : Tryz.prog.laidByTextLater tieLaid [.sentinel, .sentinel, .data, .data, .data, .handle, .data, .data] true :=
  Program.laidByTextLater_by_run_h 400 8 tie1 tie2 tie3 tie4 tie5 tie6 tie7 tie8 tie9 tie10
theorem platformNobody_row_tie : Rows.platformNobodyRow.laidByTextAt .later Tryz.pinned [.sentinel, .sentinel, .data, .data, .data, .handle, .data, .pinned, .data] true :=
  OpenClaim.laidByTextAt_pinned rfl rfl tie rfl rfl rfl rfl (fun y hy _e => by
    simp only [Rows.platformNobodyRow, List.zip_cons_cons, List.zip_nil_right, List.mem_cons, List.mem_nil_iff, or_false] at hy
    rcases hy with rfl | rfl | rfl | rfl | rfl | rfl | rfl | rfl | rfl
    · cases _e
    · cases _e
    · cases _e
    · cases _e
    · cases _e
    · cases _e
    · cases _e
    · exact ⟨pin_laid_unicode_utf8_first, by kernel_rfl⟩
    · cases _e) fits1
end Go.Proofs.YtkaoagmdhlpfoaaGreatDoor
