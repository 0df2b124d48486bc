/-
  DERIVED. GIVEN WITH THE SEED: THE PROGRAM's TIES (one call each: nine closed facts by the kernel) AND EACH ROW's TIE, after the 31st guide's Derived/Test/Toyas{Tie, Card}.lean. No idea stands in it: it is a product of the set-up. Laid BY PROGRAM, IN A SANDBOX (cutbox-door.mjs). By AI agents, Wed Nov 11 2026. No macro, syntax, notation, axiom, sorry.
-/
import Derived.Test.YtibabfedpdoofaaGreatDoorRows
import Derived.LaidByTextLater
import Derived.SevenTiedAt
import Derived.LaidSub
import Derived.LaidOnce
namespace Go.Proofs.YtibabfedpdoofaaGreatDoor
open Go
set_option maxRecDepth 100000
theorem seatTie1 : Tryz.prog.laidByTextLater [("math/bits.deBruijn32tab", Rows.laid_math_bits_deBruijn32tab), ("math/bits.deBruijn64tab", Rows.laid_math_bits_deBruijn64tab), ("internal/strconv.uint64pow10", Rows.laid_internal_strconv_uint64pow10), ("consignor/keys.parties", Rows.laid_consignor_keys_parties), ("consignor/keys.deeds", Rows.laid_consignor_keys_deeds)] [.data, .data, .data, .data, .mapped] true :=
  Program.laidByTextLater_by_one 64 8 65 (by kernel_rfl) (by kernel_rfl) (by kernel_rfl) (by kernel_rfl) (by kernel_rfl) (by kernel_rfl) (fun _ _ => by kernel_rfl)
theorem noOwnUnsafe : Tryz.pinned.checked.prog.headLifts.contains "ownunsafe" = false := by kernel_rfl
theorem tie : Tryz.prog.laidByTextLater [("math/bits.deBruijn32tab", Rows.laid_math_bits_deBruijn32tab), ("math/bits.deBruijn64tab", Rows.laid_math_bits_deBruijn64tab), ("internal/strconv.uint64pow10", Rows.laid_internal_strconv_uint64pow10), ("consignor/keys.parties", Rows.laid_consignor_keys_parties), ("consignor/keys.deeds", Rows.laid_consignor_keys_deeds)] [.data, .data, .data, .data, .mapped] true :=
  Program.laidByTextLater.sub seatTie1 ["math/bits.deBruijn32tab", "math/bits.deBruijn64tab", "internal/strconv.uint64pow10", "consignor/keys.parties", "consignor/keys.deeds"] (by kernel_rfl) (by kernel_rfl)
theorem againTell_row_tie : Rows.againTellRow.laidByTextAt .later Tryz.pinned [.data, .data, .data, .data, .mapped] true :=
  OpenClaim.laidByTextAt_later rfl rfl tie noOwnUnsafe
theorem agingSee_row_tie : Rows.agingSeeRow.laidByTextAt .later Tryz.pinned [.data, .data, .data, .data, .mapped] true :=
  OpenClaim.laidByTextAt_later rfl rfl tie noOwnUnsafe
theorem againPlaced_row_tie : Rows.againPlacedRow.laidByTextAt .later Tryz.pinned [.data, .data, .data, .data, .mapped] true :=
  OpenClaim.laidByTextAt_later rfl rfl tie noOwnUnsafe
theorem deskOpen_row_tie : Rows.deskOpenRow.laidByTextAt .later Tryz.pinned [.data, .data, .data, .data, .mapped] true :=
  OpenClaim.laidByTextAt_later rfl rfl tie noOwnUnsafe
theorem deskNone_row_tie : Rows.deskNoneRow.laidByTextAt .later Tryz.pinned [.data, .data, .data, .data, .mapped] true :=
  OpenClaim.laidByTextAt_later rfl rfl tie noOwnUnsafe
theorem deskTwo_row_tie : Rows.deskTwoRow.laidByTextAt .later Tryz.pinned [.data, .data, .data, .data, .mapped] true :=
  OpenClaim.laidByTextAt_later rfl rfl tie noOwnUnsafe
theorem deskPlay_row_tie : Rows.deskPlayRow.laidByTextAt .later Tryz.pinned [.data, .data, .data, .data, .mapped] true :=
  OpenClaim.laidByTextAt_later rfl rfl tie noOwnUnsafe
theorem historyRaw_row_tie : Rows.historyRawRow.laidByTextAt .later Tryz.pinned [.data, .data, .data, .data, .mapped] true :=
  OpenClaim.laidByTextAt_later rfl rfl tie noOwnUnsafe
theorem againTellUpto_row_tie : Rows.againTellUptoRow.laidByTextAt .later Tryz.pinned [.data, .data, .data, .data, .mapped] true :=
  OpenClaim.laidByTextAt_later rfl rfl tie noOwnUnsafe
theorem agingSeeUpto_row_tie : Rows.agingSeeUptoRow.laidByTextAt .later Tryz.pinned [.data, .data, .data, .data, .mapped] true :=
  OpenClaim.laidByTextAt_later rfl rfl tie noOwnUnsafe
theorem againPlacedUpto_row_tie : Rows.againPlacedUptoRow.laidByTextAt .later Tryz.pinned [.data, .data, .data, .data, .mapped] true :=
  OpenClaim.laidByTextAt_later rfl rfl tie noOwnUnsafe
theorem deskOpenUpto_row_tie : Rows.deskOpenUptoRow.laidByTextAt .later Tryz.pinned [.data, .data, .data, .data, .mapped] true :=
  OpenClaim.laidByTextAt_later rfl rfl tie noOwnUnsafe
theorem deskNoneUpto_row_tie : Rows.deskNoneUptoRow.laidByTextAt .later Tryz.pinned [.data, .data, .data, .data, .mapped] true :=
  OpenClaim.laidByTextAt_later rfl rfl tie noOwnUnsafe
theorem deskTwoUpto_row_tie : Rows.deskTwoUptoRow.laidByTextAt .later Tryz.pinned [.data, .data, .data, .data, .mapped] true :=
  OpenClaim.laidByTextAt_later rfl rfl tie noOwnUnsafe
theorem deskPlayUpto_row_tie : Rows.deskPlayUptoRow.laidByTextAt .later Tryz.pinned [.data, .data, .data, .data, .mapped] true :=
  OpenClaim.laidByTextAt_later rfl rfl tie noOwnUnsafe
theorem historyRawUpto_row_tie : Rows.historyRawUptoRow.laidByTextAt .later Tryz.pinned [.data, .data, .data, .data, .mapped] true :=
  OpenClaim.laidByTextAt_later rfl rfl tie noOwnUnsafe
end Go.Proofs.YtibabfedpdoofaaGreatDoor
