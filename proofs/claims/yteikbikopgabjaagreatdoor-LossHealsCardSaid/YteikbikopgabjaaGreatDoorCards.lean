/-
  DERIVED. GIVEN WITH THE SEED: THE CARDS: each row of YteikbikopgabjaaGreatDoorRows.lean that lists a variable, with what it lists TIED to the program's text (the seventh form; the later family's looks); each row that meets fmt, with fmt's text TOLD by the authors' own Lean function (tested against real Go, not proved from fmt's source: count such statements apart). THE CARD IS WHAT COUNTS. Prove the row's statement (the work); the ties are given (YteikbikopgabjaaGreatDoorTie.lean); close each card by the builder's one call (the guide's Derived/Test/ToyasCard.lean, 'card_holds'). Laid BY PROGRAM, IN A SANDBOX (cutbox-door.mjs). By AI agents, Wed Nov 11 2026. No macro, syntax, notation, axiom, sorry.
-/
import Derived.Test.YteikbikopgabjaaGreatDoorRows
import GoSem.ClaimSeven
namespace Go.Proofs.YteikbikopgabjaaGreatDoor
namespace Rows

/-- THE TIED CARD OF 'solventlaw41.LossReportMatchesSpec'. -/
def lossReportMatchesSpecCard : Claim7 := { stood := { row := lossReportMatchesSpecRow, standIns := [], harness := (true, "dd44be2b4fdb180e7981f82dd1d3492b06ede229f3f0961faae65c3ee6d32968"), looks := false }, kinds := [], alts := [], laidByText := true, laidKinds := [.data, .data], laidTests := true, laidLooks := .later }
def LossReportMatchesSpecCardSaid : Prop := Claim7.holds Tryz.pinned (.plain (OpenSpec.ofChange lossReportMatchesSpecSpec)) lossReportMatchesSpecCard

/-- THE TIED CARD OF 'solventlaw41.LossUnrecoverableMatchesSpec'. -/
def lossUnrecoverableMatchesSpecCard : Claim7 := { stood := { row := lossUnrecoverableMatchesSpecRow, standIns := [], harness := (true, "dd44be2b4fdb180e7981f82dd1d3492b06ede229f3f0961faae65c3ee6d32968"), looks := false }, kinds := [], alts := [], laidByText := true, laidKinds := [.data, .data], laidTests := true, laidLooks := .later }
def LossUnrecoverableMatchesSpecCardSaid : Prop := Claim7.holds Tryz.pinned (.plain (OpenSpec.ofChange lossUnrecoverableMatchesSpecSpec)) lossUnrecoverableMatchesSpecCard

/-- THE TIED CARD OF 'solventlaw41.LossNothingIsLost'. -/
def lossNothingIsLostCard : Claim7 := { stood := { row := lossNothingIsLostRow, standIns := [], harness := (true, "dd44be2b4fdb180e7981f82dd1d3492b06ede229f3f0961faae65c3ee6d32968"), looks := false }, kinds := [], alts := [], laidByText := true, laidKinds := [.data, .data], laidTests := true, laidLooks := .later }
def LossNothingIsLostCardSaid : Prop := Claim7.holds Tryz.pinned (.plain (OpenSpec.ofChange lossNothingIsLostSpec)) lossNothingIsLostCard

/-- THE TIED CARD OF 'solventlaw41.LossCountsReferences'. -/
def lossCountsReferencesCard : Claim7 := { stood := { row := lossCountsReferencesRow, standIns := [], harness := (true, "dd44be2b4fdb180e7981f82dd1d3492b06ede229f3f0961faae65c3ee6d32968"), looks := false }, kinds := [], alts := [], laidByText := true, laidKinds := [.data, .data], laidTests := true, laidLooks := .later }
def LossCountsReferencesCardSaid : Prop := Claim7.holds Tryz.pinned (.plain (OpenSpec.ofChange lossCountsReferencesSpec)) lossCountsReferencesCard

/-- THE TIED CARD OF 'solventlaw41.LossMatchMatchesSpec'. -/
def lossMatchMatchesSpecCard : Claim7 := { stood := { row := lossMatchMatchesSpecRow, standIns := [], harness := (true, "dd44be2b4fdb180e7981f82dd1d3492b06ede229f3f0961faae65c3ee6d32968"), looks := false }, kinds := [], alts := [], laidByText := true, laidKinds := [.data, .data, .data, .data], laidTests := true, laidLooks := .later }
def LossMatchMatchesSpecCardSaid : Prop := Claim7.holds Tryz.pinned (.plain (OpenSpec.ofChange lossMatchMatchesSpecSpec)) lossMatchMatchesSpecCard

/-- THE TIED CARD OF 'solventlaw41.LossHeals'. -/
def lossHealsCard : Claim7 := { stood := { row := lossHealsRow, standIns := [], harness := (true, "dd44be2b4fdb180e7981f82dd1d3492b06ede229f3f0961faae65c3ee6d32968"), looks := false }, kinds := [], alts := [], laidByText := true, laidKinds := [.data, .data, .data, .data], laidTests := true, laidLooks := .later }
def LossHealsCardSaid : Prop := Claim7.holds Tryz.pinned (.plain (OpenSpec.ofChange lossHealsSpec)) lossHealsCard

/-- THE SECOND FORM's CARD OF 'solventlaw41.LossReportMatchesSpec'. -/
def lossReportMatchesSpecUptoCard : Claim7 := { stood := { row := lossReportMatchesSpecUptoRow, standIns := [], harness := (true, "dd44be2b4fdb180e7981f82dd1d3492b06ede229f3f0961faae65c3ee6d32968"), looks := false }, kinds := [], alts := [], laidByText := true, laidKinds := [.data, .data], laidTests := true, laidLooks := .later }
def LossReportMatchesSpecUptoCardSaid : Prop := Claim7.holds Tryz.pinned (.plain (OpenSpec.upto lossReportMatchesSpecSpec)) lossReportMatchesSpecUptoCard

/-- THE SECOND FORM's CARD OF 'solventlaw41.LossUnrecoverableMatchesSpec'. -/
def lossUnrecoverableMatchesSpecUptoCard : Claim7 := { stood := { row := lossUnrecoverableMatchesSpecUptoRow, standIns := [], harness := (true, "dd44be2b4fdb180e7981f82dd1d3492b06ede229f3f0961faae65c3ee6d32968"), looks := false }, kinds := [], alts := [], laidByText := true, laidKinds := [.data, .data], laidTests := true, laidLooks := .later }
def LossUnrecoverableMatchesSpecUptoCardSaid : Prop := Claim7.holds Tryz.pinned (.plain (OpenSpec.upto lossUnrecoverableMatchesSpecSpec)) lossUnrecoverableMatchesSpecUptoCard

/-- THE SECOND FORM's CARD OF 'solventlaw41.LossNothingIsLost'. -/
def lossNothingIsLostUptoCard : Claim7 := { stood := { row := lossNothingIsLostUptoRow, standIns := [], harness := (true, "dd44be2b4fdb180e7981f82dd1d3492b06ede229f3f0961faae65c3ee6d32968"), looks := false }, kinds := [], alts := [], laidByText := true, laidKinds := [.data, .data], laidTests := true, laidLooks := .later }
def LossNothingIsLostUptoCardSaid : Prop := Claim7.holds Tryz.pinned (.plain (OpenSpec.upto lossNothingIsLostSpec)) lossNothingIsLostUptoCard

/-- THE SECOND FORM's CARD OF 'solventlaw41.LossCountsReferences'. -/
def lossCountsReferencesUptoCard : Claim7 := { stood := { row := lossCountsReferencesUptoRow, standIns := [], harness := (true, "dd44be2b4fdb180e7981f82dd1d3492b06ede229f3f0961faae65c3ee6d32968"), looks := false }, kinds := [], alts := [], laidByText := true, laidKinds := [.data, .data], laidTests := true, laidLooks := .later }
def LossCountsReferencesUptoCardSaid : Prop := Claim7.holds Tryz.pinned (.plain (OpenSpec.upto lossCountsReferencesSpec)) lossCountsReferencesUptoCard

/-- THE SECOND FORM's CARD OF 'solventlaw41.LossMatchMatchesSpec'. -/
def lossMatchMatchesSpecUptoCard : Claim7 := { stood := { row := lossMatchMatchesSpecUptoRow, standIns := [], harness := (true, "dd44be2b4fdb180e7981f82dd1d3492b06ede229f3f0961faae65c3ee6d32968"), looks := false }, kinds := [], alts := [], laidByText := true, laidKinds := [.data, .data, .data, .data], laidTests := true, laidLooks := .later }
def LossMatchMatchesSpecUptoCardSaid : Prop := Claim7.holds Tryz.pinned (.plain (OpenSpec.upto lossMatchMatchesSpecSpec)) lossMatchMatchesSpecUptoCard

/-- THE SECOND FORM's CARD OF 'solventlaw41.LossHeals'. -/
def lossHealsUptoCard : Claim7 := { stood := { row := lossHealsUptoRow, standIns := [], harness := (true, "dd44be2b4fdb180e7981f82dd1d3492b06ede229f3f0961faae65c3ee6d32968"), looks := false }, kinds := [], alts := [], laidByText := true, laidKinds := [.data, .data, .data, .data], laidTests := true, laidLooks := .later }
def LossHealsUptoCardSaid : Prop := Claim7.holds Tryz.pinned (.plain (OpenSpec.upto lossHealsSpec)) lossHealsUptoCard
end Rows
end Go.Proofs.YteikbikopgabjaaGreatDoor
