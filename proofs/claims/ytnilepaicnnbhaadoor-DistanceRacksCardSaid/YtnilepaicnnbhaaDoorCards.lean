/-
  DERIVED. GIVEN WITH THE SEED: THE CARDS: each row of YtnilepaicnnbhaaDoorRows.lean that lists a variable, with what it lists TIED to the program's text (the seventh form; the later family's looks); each row that meets fmt, with fmt's text TOLD by the authors' own Lean function (tested against real Go, not proved from fmt's source: count such statements apart). THE CARD IS WHAT COUNTS. Prove the row's statement (the work); the ties are given (YtnilepaicnnbhaaDoorTie.lean); close each card by the builder's one call (the guide's Derived/Test/ToyasCard.lean, 'card_holds'). Laid BY PROGRAM, IN A SANDBOX (cutbox-door.mjs). By AI agents, Wed Nov 11 2026. No macro, syntax, notation, axiom, sorry.
-/
import Derived.Test.YtnilepaicnnbhaaDoorRows
import GoSem.ClaimSeven
namespace Go.Proofs.YtnilepaicnnbhaaDoor
namespace Rows

/-- THE TIED CARD OF 'solventlaw09.DistanceKeepsPromise'. -/
def distanceKeepsPromiseCard : Claim7 := { stood := { row := distanceKeepsPromiseRow, standIns := [], harness := (true, "48887f1d488b72129d32517ec203725845678b4f7273a8f9a9509d6ce83a31e5"), looks := false }, kinds := [], alts := [], laidByText := true, laidKinds := [.data], laidTests := true, laidLooks := .later }
def DistanceKeepsPromiseCardSaid : Prop := Claim7.holds Tryd.pinned (.plain (OpenSpec.ofChange distanceKeepsPromiseSpec)) distanceKeepsPromiseCard

/-- THE TIED CARD OF 'solventlaw09.DistanceFatal'. -/
def distanceFatalCard : Claim7 := { stood := { row := distanceFatalRow, standIns := [], harness := (true, "48887f1d488b72129d32517ec203725845678b4f7273a8f9a9509d6ce83a31e5"), looks := false }, kinds := [], alts := [], laidByText := true, laidKinds := [.data], laidTests := true, laidLooks := .later }
def DistanceFatalCardSaid : Prop := Claim7.holds Tryd.pinned (.plain (OpenSpec.ofChange distanceFatalSpec)) distanceFatalCard

/-- THE TIED CARD OF 'solventlaw09.DistanceSteps'. -/
def distanceStepsCard : Claim7 := { stood := { row := distanceStepsRow, standIns := [], harness := (true, "48887f1d488b72129d32517ec203725845678b4f7273a8f9a9509d6ce83a31e5"), looks := false }, kinds := [], alts := [], laidByText := true, laidKinds := [.data], laidTests := true, laidLooks := .later }
def DistanceStepsCardSaid : Prop := Claim7.holds Tryd.pinned (.plain (OpenSpec.ofChange distanceStepsSpec)) distanceStepsCard

/-- THE TIED CARD OF 'solventlaw09.DistanceBounds'. -/
def distanceBoundsCard : Claim7 := { stood := { row := distanceBoundsRow, standIns := [], harness := (true, "48887f1d488b72129d32517ec203725845678b4f7273a8f9a9509d6ce83a31e5"), looks := false }, kinds := [], alts := [], laidByText := true, laidKinds := [.data], laidTests := true, laidLooks := .later }
def DistanceBoundsCardSaid : Prop := Claim7.holds Tryd.pinned (.plain (OpenSpec.ofChange distanceBoundsSpec)) distanceBoundsCard

/-- THE TIED CARD OF 'solventlaw09.DistanceRacks'. -/
def distanceRacksCard : Claim7 := { stood := { row := distanceRacksRow, standIns := [], harness := (true, "48887f1d488b72129d32517ec203725845678b4f7273a8f9a9509d6ce83a31e5"), looks := false }, kinds := [], alts := [], laidByText := true, laidKinds := [.data], laidTests := true, laidLooks := .later }
def DistanceRacksCardSaid : Prop := Claim7.holds Tryd.pinned (.plain (OpenSpec.ofChange distanceRacksSpec)) distanceRacksCard

/-- THE SECOND FORM's CARD OF 'solventlaw09.DistanceKeepsPromise'. -/
def distanceKeepsPromiseUptoCard : Claim7 := { stood := { row := distanceKeepsPromiseUptoRow, standIns := [], harness := (true, "48887f1d488b72129d32517ec203725845678b4f7273a8f9a9509d6ce83a31e5"), looks := false }, kinds := [], alts := [], laidByText := true, laidKinds := [.data], laidTests := true, laidLooks := .later }
def DistanceKeepsPromiseUptoCardSaid : Prop := Claim7.holds Tryd.pinned (.plain (OpenSpec.upto distanceKeepsPromiseSpec)) distanceKeepsPromiseUptoCard

/-- THE SECOND FORM's CARD OF 'solventlaw09.DistanceFatal'. -/
def distanceFatalUptoCard : Claim7 := { stood := { row := distanceFatalUptoRow, standIns := [], harness := (true, "48887f1d488b72129d32517ec203725845678b4f7273a8f9a9509d6ce83a31e5"), looks := false }, kinds := [], alts := [], laidByText := true, laidKinds := [.data], laidTests := true, laidLooks := .later }
def DistanceFatalUptoCardSaid : Prop := Claim7.holds Tryd.pinned (.plain (OpenSpec.upto distanceFatalSpec)) distanceFatalUptoCard

/-- THE SECOND FORM's CARD OF 'solventlaw09.DistanceSteps'. -/
def distanceStepsUptoCard : Claim7 := { stood := { row := distanceStepsUptoRow, standIns := [], harness := (true, "48887f1d488b72129d32517ec203725845678b4f7273a8f9a9509d6ce83a31e5"), looks := false }, kinds := [], alts := [], laidByText := true, laidKinds := [.data], laidTests := true, laidLooks := .later }
def DistanceStepsUptoCardSaid : Prop := Claim7.holds Tryd.pinned (.plain (OpenSpec.upto distanceStepsSpec)) distanceStepsUptoCard

/-- THE SECOND FORM's CARD OF 'solventlaw09.DistanceBounds'. -/
def distanceBoundsUptoCard : Claim7 := { stood := { row := distanceBoundsUptoRow, standIns := [], harness := (true, "48887f1d488b72129d32517ec203725845678b4f7273a8f9a9509d6ce83a31e5"), looks := false }, kinds := [], alts := [], laidByText := true, laidKinds := [.data], laidTests := true, laidLooks := .later }
def DistanceBoundsUptoCardSaid : Prop := Claim7.holds Tryd.pinned (.plain (OpenSpec.upto distanceBoundsSpec)) distanceBoundsUptoCard

/-- THE SECOND FORM's CARD OF 'solventlaw09.DistanceRacks'. -/
def distanceRacksUptoCard : Claim7 := { stood := { row := distanceRacksUptoRow, standIns := [], harness := (true, "48887f1d488b72129d32517ec203725845678b4f7273a8f9a9509d6ce83a31e5"), looks := false }, kinds := [], alts := [], laidByText := true, laidKinds := [.data], laidTests := true, laidLooks := .later }
def DistanceRacksUptoCardSaid : Prop := Claim7.holds Tryd.pinned (.plain (OpenSpec.upto distanceRacksSpec)) distanceRacksUptoCard
end Rows
end Go.Proofs.YtnilepaicnnbhaaDoor
