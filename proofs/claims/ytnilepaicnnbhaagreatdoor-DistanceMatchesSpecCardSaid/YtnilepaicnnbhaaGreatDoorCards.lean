/-
  DERIVED. GIVEN WITH THE SEED: THE CARDS: each row of YtnilepaicnnbhaaGreatDoorRows.lean that lists a variable, with what it lists TIED to the program's text (the seventh form; the later family's looks); each row that meets fmt, with fmt's text TOLD by the authors' own Lean function (tested against real Go, not proved from fmt's source: count such statements apart). THE CARD IS WHAT COUNTS. Prove the row's statement (the work); the ties are given (YtnilepaicnnbhaaGreatDoorTie.lean); close each card by the builder's one call (the guide's Derived/Test/ToyasCard.lean, 'card_holds'). Laid BY PROGRAM, IN A SANDBOX (cutbox-door.mjs). By AI agents, Wed Nov 11 2026. No macro, syntax, notation, axiom, sorry.
-/
import Derived.Test.YtnilepaicnnbhaaGreatDoorRows
import GoSem.ClaimSeven
namespace Go.Proofs.YtnilepaicnnbhaaGreatDoor
namespace Rows

/-- THE TIED CARD OF 'solventlaw09.DistanceMatchesSpec'. -/
def distanceMatchesSpecCard : Claim7 := { stood := { row := distanceMatchesSpecRow, standIns := [], harness := (true, "1a7094e464635d95c71ce51f17dc6bf7239b1c9296d8b40278c884b8047539df"), looks := false }, kinds := [], alts := [], laidByText := true, laidKinds := [.data], laidTests := true, laidLooks := .later }
def DistanceMatchesSpecCardSaid : Prop := Claim7.holds Tryz.pinned (.plain (OpenSpec.ofChange distanceMatchesSpecSpec)) distanceMatchesSpecCard

/-- THE SECOND FORM's CARD OF 'solventlaw09.DistanceMatchesSpec'. -/
def distanceMatchesSpecUptoCard : Claim7 := { stood := { row := distanceMatchesSpecUptoRow, standIns := [], harness := (true, "1a7094e464635d95c71ce51f17dc6bf7239b1c9296d8b40278c884b8047539df"), looks := false }, kinds := [], alts := [], laidByText := true, laidKinds := [.data], laidTests := true, laidLooks := .later }
def DistanceMatchesSpecUptoCardSaid : Prop := Claim7.holds Tryz.pinned (.plain (OpenSpec.upto distanceMatchesSpecSpec)) distanceMatchesSpecUptoCard
end Rows
end Go.Proofs.YtnilepaicnnbhaaGreatDoor
