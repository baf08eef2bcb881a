/-
  DERIVED. GIVEN WITH THE SEED: THE PROGRAM's TIES (one call each: nine closed facts by the kernel) AND EACH ROW's TIE, after the 31st guide's Derived/Test/Toyas{Tie, Card}.lean. No idea stands in it: it is a product of the set-up. Laid BY PROGRAM, IN A SANDBOX (cutbox-door.mjs). By AI agents, Wed Nov 11 2026. No macro, syntax, notation, axiom, sorry.
-/
import Derived.Test.YteikbikopgabjaaGreatDoorRows
import Derived.LaidByTextLater
import Derived.SevenTiedAt
import Derived.LaidSub
import Derived.LaidOnce
namespace Go.Proofs.YteikbikopgabjaaGreatDoor
open Go
set_option maxRecDepth 100000
theorem seatTie1 : Tryz.prog.laidByTextLater [("solvent/solventref02.constants", Rows.laid_solvent_solventref02_constants), ("solvent/digest.constants", Rows.laid_solvent_digest_constants), ("solvent/digest.start", Rows.laid_solvent_digest_start), ("solvent/field.fields", Rows.laid_solvent_field_fields)] [.data, .data, .data, .data] true :=
  Program.laidByTextLater_by_one 31 8 65 (by kernel_rfl) (by kernel_rfl) (by kernel_rfl) (by kernel_rfl) (by kernel_rfl) (by kernel_rfl) (fun _ _ => by kernel_rfl)
theorem noOwnUnsafe : Tryz.pinned.checked.prog.headLifts.contains "ownunsafe" = false := by kernel_rfl
theorem tie : Tryz.prog.laidByTextLater [("solvent/solventref02.constants", Rows.laid_solvent_solventref02_constants), ("solvent/field.fields", Rows.laid_solvent_field_fields)] [.data, .data] true :=
  Program.laidByTextLater.sub seatTie1 ["solvent/solventref02.constants", "solvent/field.fields"] (by kernel_rfl) (by kernel_rfl)
theorem lossReportMatchesSpec_row_tie : Rows.lossReportMatchesSpecRow.laidByTextAt .later Tryz.pinned [.data, .data] true :=
  OpenClaim.laidByTextAt_later rfl rfl tie noOwnUnsafe
theorem lossUnrecoverableMatchesSpec_row_tie : Rows.lossUnrecoverableMatchesSpecRow.laidByTextAt .later Tryz.pinned [.data, .data] true :=
  OpenClaim.laidByTextAt_later rfl rfl tie noOwnUnsafe
theorem lossNothingIsLost_row_tie : Rows.lossNothingIsLostRow.laidByTextAt .later Tryz.pinned [.data, .data] true :=
  OpenClaim.laidByTextAt_later rfl rfl tie noOwnUnsafe
theorem lossCountsReferences_row_tie : Rows.lossCountsReferencesRow.laidByTextAt .later Tryz.pinned [.data, .data] true :=
  OpenClaim.laidByTextAt_later rfl rfl tie noOwnUnsafe
theorem tie2 : Tryz.prog.laidByTextLater [("solvent/solventref02.constants", Rows.laid_solvent_solventref02_constants), ("solvent/digest.constants", Rows.laid_solvent_digest_constants), ("solvent/digest.start", Rows.laid_solvent_digest_start), ("solvent/field.fields", Rows.laid_solvent_field_fields)] [.data, .data, .data, .data] true :=
  Program.laidByTextLater.sub seatTie1 ["solvent/solventref02.constants", "solvent/digest.constants", "solvent/digest.start", "solvent/field.fields"] (by kernel_rfl) (by kernel_rfl)
theorem lossMatchMatchesSpec_row_tie : Rows.lossMatchMatchesSpecRow.laidByTextAt .later Tryz.pinned [.data, .data, .data, .data] true :=
  OpenClaim.laidByTextAt_later rfl rfl tie2 noOwnUnsafe
theorem lossHeals_row_tie : Rows.lossHealsRow.laidByTextAt .later Tryz.pinned [.data, .data, .data, .data] true :=
  OpenClaim.laidByTextAt_later rfl rfl tie2 noOwnUnsafe
theorem lossReportMatchesSpecUpto_row_tie : Rows.lossReportMatchesSpecUptoRow.laidByTextAt .later Tryz.pinned [.data, .data] true :=
  OpenClaim.laidByTextAt_later rfl rfl tie noOwnUnsafe
theorem lossUnrecoverableMatchesSpecUpto_row_tie : Rows.lossUnrecoverableMatchesSpecUptoRow.laidByTextAt .later Tryz.pinned [.data, .data] true :=
  OpenClaim.laidByTextAt_later rfl rfl tie noOwnUnsafe
theorem lossNothingIsLostUpto_row_tie : Rows.lossNothingIsLostUptoRow.laidByTextAt .later Tryz.pinned [.data, .data] true :=
  OpenClaim.laidByTextAt_later rfl rfl tie noOwnUnsafe
theorem lossCountsReferencesUpto_row_tie : Rows.lossCountsReferencesUptoRow.laidByTextAt .later Tryz.pinned [.data, .data] true :=
  OpenClaim.laidByTextAt_later rfl rfl tie noOwnUnsafe
theorem lossMatchMatchesSpecUpto_row_tie : Rows.lossMatchMatchesSpecUptoRow.laidByTextAt .later Tryz.pinned [.data, .data, .data, .data] true :=
  OpenClaim.laidByTextAt_later rfl rfl tie2 noOwnUnsafe
theorem lossHealsUpto_row_tie : Rows.lossHealsUptoRow.laidByTextAt .later Tryz.pinned [.data, .data, .data, .data] true :=
  OpenClaim.laidByTextAt_later rfl rfl tie2 noOwnUnsafe
end Go.Proofs.YteikbikopgabjaaGreatDoor
