/-
  DERIVED. GIVEN WITH THE SEED: THE PROGRAM's TIES (one call each: nine closed facts by the kernel) AND EACH ROW's TIE, after the 31st guide's Derived/Test/Toyas{Tie, Card}.lean. No idea stands in it: it is a product of the set-up. Laid BY PROGRAM, IN A SANDBOX (cutbox-door.mjs). By AI agents, Wed Nov 11 2026. No macro, syntax, notation, axiom, sorry.
-/
import Derived.Test.YtllfbfkjbhpfeaaGreatDoorRows
import Derived.LaidByTextLater
import Derived.SevenTiedAt
import Derived.LaidSub
import Derived.LaidOnce
namespace Go.Proofs.YtllfbfkjbhpfeaaGreatDoor
open Go
set_option maxRecDepth 100000
theorem seatTie1 : Tryz.prog.laidByTextLater [("math/bits.deBruijn32tab", Rows.laid_math_bits_deBruijn32tab), ("math/bits.deBruijn64tab", Rows.laid_math_bits_deBruijn64tab), ("internal/strconv.uint64pow10", Rows.laid_internal_strconv_uint64pow10), ("seneschal/sha.constants", Rows.laid_seneschal_sha_constants), ("errors.errorType", Rows.laid_errors_errorType)] [.data, .data, .data, .data, .handle] true :=
  Program.laidByTextLater_by_one 36 8 65 (by kernel_rfl) (by kernel_rfl) (by kernel_rfl) (by kernel_rfl) (by kernel_rfl) (by kernel_rfl) (fun _ _ => by kernel_rfl)
theorem noOwnUnsafe : Tryz.pinned.checked.prog.headLifts.contains "ownunsafe" = false := by kernel_rfl
theorem tie : Tryz.prog.laidByTextLater [("math/bits.deBruijn32tab", Rows.laid_math_bits_deBruijn32tab), ("math/bits.deBruijn64tab", Rows.laid_math_bits_deBruijn64tab), ("internal/strconv.uint64pow10", Rows.laid_internal_strconv_uint64pow10), ("seneschal/sha.constants", Rows.laid_seneschal_sha_constants), ("errors.errorType", Rows.laid_errors_errorType)] [.data, .data, .data, .data, .handle] true :=
  Program.laidByTextLater.sub seatTie1 ["math/bits.deBruijn32tab", "math/bits.deBruijn64tab", "internal/strconv.uint64pow10", "seneschal/sha.constants", "errors.errorType"] (by kernel_rfl) (by kernel_rfl)
theorem tgsAsks_row_tie : Rows.tgsAsksRow.laidByTextAt .later Tryz.pinned [.data, .data, .data, .data, .handle] true :=
  OpenClaim.laidByTextAt_later rfl rfl tie noOwnUnsafe
theorem tgsGrants_row_tie : Rows.tgsGrantsRow.laidByTextAt .later Tryz.pinned [.data, .data, .data, .data, .handle] true :=
  OpenClaim.laidByTextAt_later rfl rfl tie noOwnUnsafe
theorem tgsWithin_row_tie : Rows.tgsWithinRow.laidByTextAt .later Tryz.pinned [.data, .data, .data, .data, .handle] true :=
  OpenClaim.laidByTextAt_later rfl rfl tie noOwnUnsafe
theorem tgsRenews_row_tie : Rows.tgsRenewsRow.laidByTextAt .later Tryz.pinned [.data, .data, .data, .data, .handle] true :=
  OpenClaim.laidByTextAt_later rfl rfl tie noOwnUnsafe
theorem tgsOnce_row_tie : Rows.tgsOnceRow.laidByTextAt .later Tryz.pinned [.data, .data, .data, .data, .handle] true :=
  OpenClaim.laidByTextAt_later rfl rfl tie noOwnUnsafe
theorem tgsVoid_row_tie : Rows.tgsVoidRow.laidByTextAt .later Tryz.pinned [.data, .data, .data, .data, .handle] true :=
  OpenClaim.laidByTextAt_later rfl rfl tie noOwnUnsafe
theorem tgsAsksUpto_row_tie : Rows.tgsAsksUptoRow.laidByTextAt .later Tryz.pinned [.data, .data, .data, .data, .handle] true :=
  OpenClaim.laidByTextAt_later rfl rfl tie noOwnUnsafe
theorem tgsGrantsUpto_row_tie : Rows.tgsGrantsUptoRow.laidByTextAt .later Tryz.pinned [.data, .data, .data, .data, .handle] true :=
  OpenClaim.laidByTextAt_later rfl rfl tie noOwnUnsafe
theorem tgsWithinUpto_row_tie : Rows.tgsWithinUptoRow.laidByTextAt .later Tryz.pinned [.data, .data, .data, .data, .handle] true :=
  OpenClaim.laidByTextAt_later rfl rfl tie noOwnUnsafe
theorem tgsRenewsUpto_row_tie : Rows.tgsRenewsUptoRow.laidByTextAt .later Tryz.pinned [.data, .data, .data, .data, .handle] true :=
  OpenClaim.laidByTextAt_later rfl rfl tie noOwnUnsafe
theorem tgsOnceUpto_row_tie : Rows.tgsOnceUptoRow.laidByTextAt .later Tryz.pinned [.data, .data, .data, .data, .handle] true :=
  OpenClaim.laidByTextAt_later rfl rfl tie noOwnUnsafe
theorem tgsVoidUpto_row_tie : Rows.tgsVoidUptoRow.laidByTextAt .later Tryz.pinned [.data, .data, .data, .data, .handle] true :=
  OpenClaim.laidByTextAt_later rfl rfl tie noOwnUnsafe
end Go.Proofs.YtllfbfkjbhpfeaaGreatDoor
