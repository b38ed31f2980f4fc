/-
  DERIVED. GIVEN WITH THE SEED: THE PROGRAM's TIES (one call each: nine closed facts by the kernel) AND EACH ROW's TIE, after the 31st guide's Derived/Test/Toyas{Tie, Card}.lean. No idea stands in it: it is a product of the set-up. Laid BY PROGRAM, IN A SANDBOX (cutbox-door.mjs). By AI agents, Wed Nov 11 2026. No macro, syntax, notation, axiom, sorry.
-/
import Derived.Test.YtajccgmeminlhaaGreatDoorRows
import Derived.LaidByTextLater
import Derived.SevenTiedAt
import Derived.LaidSub
import Derived.LaidOnce
namespace Go.Proofs.YtajccgmeminlhaaGreatDoor
open Go
set_option maxRecDepth 100000
theorem seatTie1 : Tryz.prog.laidByTextLater [("letterbag/field.powers", Rows.laid_letterbag_field_powers), ("letterbag/height.letters", Rows.laid_letterbag_height_letters)] [.widerDeep, .data] true :=
  Program.laidByTextLater_by_one 22 8 64 (by kernel_rfl) (by kernel_rfl) (by kernel_rfl) (by kernel_rfl) (by kernel_rfl) (by kernel_rfl) (fun _ _ => by kernel_rfl)
theorem noOwnUnsafe : Tryz.pinned.checked.prog.headLifts.contains "ownunsafe" = false := by kernel_rfl
theorem tie : Tryz.prog.laidByTextLater [("letterbag/field.powers", Rows.laid_letterbag_field_powers), ("letterbag/height.letters", Rows.laid_letterbag_height_letters)] [.widerDeep, .data] true :=
  Program.laidByTextLater.sub seatTie1 ["letterbag/field.powers", "letterbag/height.letters"] (by kernel_rfl) (by kernel_rfl)
theorem barcodeScans_row_tie : Rows.barcodeScansRow.laidByTextAt .later Tryz.pinned [.widerDeep, .data] true :=
  OpenClaim.laidByTextAt_later rfl rfl tie noOwnUnsafe
theorem barcodeMeasured_row_tie : Rows.barcodeMeasuredRow.laidByTextAt .later Tryz.pinned [.widerDeep, .data] true :=
  OpenClaim.laidByTextAt_later rfl rfl tie noOwnUnsafe
theorem barcodeWrong_row_tie : Rows.barcodeWrongRow.laidByTextAt .later Tryz.pinned [.widerDeep, .data] true :=
  OpenClaim.laidByTextAt_later rfl rfl tie noOwnUnsafe
theorem tie2 : Tryz.prog.laidByTextLater [("letterbag/field.powers", Rows.laid_letterbag_field_powers)] [.widerDeep] true :=
  Program.laidByTextLater.sub seatTie1 ["letterbag/field.powers"] (by kernel_rfl) (by kernel_rfl)
theorem barcodeTells_row_tie : Rows.barcodeTellsRow.laidByTextAt .later Tryz.pinned [.widerDeep] true :=
  OpenClaim.laidByTextAt_later rfl rfl tie2 noOwnUnsafe
theorem barcodeReads_row_tie : Rows.barcodeReadsRow.laidByTextAt .later Tryz.pinned [.widerDeep] true :=
  OpenClaim.laidByTextAt_later rfl rfl tie2 noOwnUnsafe
theorem barcodeNear_row_tie : Rows.barcodeNearRow.laidByTextAt .later Tryz.pinned [.widerDeep] true :=
  OpenClaim.laidByTextAt_later rfl rfl tie2 noOwnUnsafe
theorem barcodeApart_row_tie : Rows.barcodeApartRow.laidByTextAt .later Tryz.pinned [.widerDeep] true :=
  OpenClaim.laidByTextAt_later rfl rfl tie2 noOwnUnsafe
theorem barcodeScansUpto_row_tie : Rows.barcodeScansUptoRow.laidByTextAt .later Tryz.pinned [.widerDeep, .data] true :=
  OpenClaim.laidByTextAt_later rfl rfl tie noOwnUnsafe
theorem barcodeMeasuredUpto_row_tie : Rows.barcodeMeasuredUptoRow.laidByTextAt .later Tryz.pinned [.widerDeep, .data] true :=
  OpenClaim.laidByTextAt_later rfl rfl tie noOwnUnsafe
theorem barcodeTellsUpto_row_tie : Rows.barcodeTellsUptoRow.laidByTextAt .later Tryz.pinned [.widerDeep] true :=
  OpenClaim.laidByTextAt_later rfl rfl tie2 noOwnUnsafe
theorem barcodeReadsUpto_row_tie : Rows.barcodeReadsUptoRow.laidByTextAt .later Tryz.pinned [.widerDeep] true :=
  OpenClaim.laidByTextAt_later rfl rfl tie2 noOwnUnsafe
theorem barcodeNearUpto_row_tie : Rows.barcodeNearUptoRow.laidByTextAt .later Tryz.pinned [.widerDeep] true :=
  OpenClaim.laidByTextAt_later rfl rfl tie2 noOwnUnsafe
theorem barcodeApartUpto_row_tie : Rows.barcodeApartUptoRow.laidByTextAt .later Tryz.pinned [.widerDeep] true :=
  OpenClaim.laidByTextAt_later rfl rfl tie2 noOwnUnsafe
theorem barcodeWrongUpto_row_tie : Rows.barcodeWrongUptoRow.laidByTextAt .later Tryz.pinned [.widerDeep, .data] true :=
  OpenClaim.laidByTextAt_later rfl rfl tie noOwnUnsafe
end Go.Proofs.YtajccgmeminlhaaGreatDoor
