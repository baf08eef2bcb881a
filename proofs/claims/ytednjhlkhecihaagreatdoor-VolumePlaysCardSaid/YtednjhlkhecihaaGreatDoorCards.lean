/-
  DERIVED. GIVEN WITH THE SEED: THE CARDS: each row of YtednjhlkhecihaaGreatDoorRows.lean that lists a variable, with what it lists TIED to the program's text (the seventh form; the later family's looks); each row that meets fmt, with fmt's text TOLD by the authors' own Lean function (tested against real Go, not proved from fmt's source: count such statements apart). THE CARD IS WHAT COUNTS. Prove the row's statement (the work); the ties are given (YtednjhlkhecihaaGreatDoorTie.lean); close each card by the builder's one call (the guide's Derived/Test/ToyasCard.lean, 'card_holds'). Laid BY PROGRAM, IN A SANDBOX (cutbox-door.mjs). By AI agents, Wed Nov 11 2026. No macro, syntax, notation, axiom, sorry.
-/
import Derived.Test.YtednjhlkhecihaaGreatDoorRows
import GoSem.ClaimSeven
namespace Go.Proofs.YtednjhlkhecihaaGreatDoor
namespace Rows

/-- THE TIED CARD OF 'solventlaw27.VolumePlays'. -/
def volumePlaysCard : Claim7 := { stood := { row := volumePlaysRow, standIns := [], harness := (true, "482dcaf0d1d840498510eb1141a64d31e1dc17554271ef0151ec9b56aba1b708"), looks := false }, kinds := [], alts := [], laidByText := true, laidKinds := [.data], laidTests := true, laidLooks := .later }
def VolumePlaysCardSaid : Prop := Claim7.holds Tryz.pinned (.plain (OpenSpec.ofChange volumePlaysSpec)) volumePlaysCard

/-- THE SECOND FORM's CARD OF 'solventlaw27.VolumePlays'. -/
def volumePlaysUptoCard : Claim7 := { stood := { row := volumePlaysUptoRow, standIns := [], harness := (true, "482dcaf0d1d840498510eb1141a64d31e1dc17554271ef0151ec9b56aba1b708"), looks := false }, kinds := [], alts := [], laidByText := true, laidKinds := [.data], laidTests := true, laidLooks := .later }
def VolumePlaysUptoCardSaid : Prop := Claim7.holds Tryz.pinned (.plain (OpenSpec.upto volumePlaysSpec)) volumePlaysUptoCard
end Rows
end Go.Proofs.YtednjhlkhecihaaGreatDoor
