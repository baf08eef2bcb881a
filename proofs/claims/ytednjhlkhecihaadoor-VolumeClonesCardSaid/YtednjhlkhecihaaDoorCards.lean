/-
  DERIVED. GIVEN WITH THE SEED: THE CARDS: each row of YtednjhlkhecihaaDoorRows.lean that lists a variable, with what it lists TIED to the program's text (the seventh form; the later family's looks); each row that meets fmt, with fmt's text TOLD by the authors' own Lean function (tested against real Go, not proved from fmt's source: count such statements apart). THE CARD IS WHAT COUNTS. Prove the row's statement (the work); the ties are given (YtednjhlkhecihaaDoorTie.lean); close each card by the builder's one call (the guide's Derived/Test/ToyasCard.lean, 'card_holds'). Laid BY PROGRAM, IN A SANDBOX (cutbox-door.mjs). By AI agents, Wed Nov 11 2026. No macro, syntax, notation, axiom, sorry.
-/
import Derived.Test.YtednjhlkhecihaaDoorRows
import GoSem.ClaimSeven
namespace Go.Proofs.YtednjhlkhecihaaDoor
namespace Rows

/-- THE TIED CARD OF 'solventlaw27.VolumeClones'. -/
def volumeClonesCard : Claim7 := { stood := { row := volumeClonesRow, standIns := [], harness := (true, "ff2d3802db8f4ac81d46343d5cf336b35d6d74824a97ab781a2140011bb59731"), looks := false }, kinds := [], alts := [], laidByText := true, laidKinds := [.data], laidTests := true, laidLooks := .later }
def VolumeClonesCardSaid : Prop := Claim7.holds Tryd.pinned (.plain (OpenSpec.ofChange volumeClonesSpec)) volumeClonesCard

/-- THE SECOND FORM's CARD OF 'solventlaw27.VolumeClones'. -/
def volumeClonesUptoCard : Claim7 := { stood := { row := volumeClonesUptoRow, standIns := [], harness := (true, "ff2d3802db8f4ac81d46343d5cf336b35d6d74824a97ab781a2140011bb59731"), looks := false }, kinds := [], alts := [], laidByText := true, laidKinds := [.data], laidTests := true, laidLooks := .later }
def VolumeClonesUptoCardSaid : Prop := Claim7.holds Tryd.pinned (.plain (OpenSpec.upto volumeClonesSpec)) volumeClonesUptoCard
end Rows
end Go.Proofs.YtednjhlkhecihaaDoor
