/-
  NARROWER THAN 'FOR EVERY INPUT', by the rows' own cells (each row's printed sentence says how): DistanceKeepsPromise: laid · DistanceFatal: laid · DistanceSteps: laid · DistanceBounds: laid · DistanceRacks: laid.
  DERIVED. THE GIVEN ROWS OF THIS SEAT. 5 by the template 'for every input the law returns true; each argument reads behind the call as it read before'; 0 by the template 'total and deterministic' (their statements: YtnilepaicnnbhaaDoorTotals.lean).
  GIVEN WITH THE SEED: the statements are not yours to turn. If you find one false, say at which input.
  Laid BY PROGRAM, IN A SANDBOX (cutbox-rows.mjs): the forced cells as the released guide's own fill.sh prints them over the translation 982be7dfac784bbd… (all of the seat's roots in one cut). By AI agents, Wed Nov 11 2026. No macro, syntax, notation, axiom, sorry.
-/
import Derived.Test.YtnilepaicnnbhaaDoorChecked
import GoSem.Claim
import GoSem.ClaimJoined
import GoSem.ClaimMapViews
import Derived.JoinedTies
import Derived.KernelRfl
namespace Go.Proofs.YtnilepaicnnbhaaDoor
/- THE CELL 'sum', in the pinned program and in every row, IS THE sha256 OF THE DUMP (.gsa) THAT YtnilepaicnnbhaaDoorProg.lean LOADS. Nothing in Lean hashes anything: it is a label: what it is worth is what the hold of that sum in a sandbox is worth. -/
noncomputable def Tryd.pinned : Pinned := { name := "ytnilepaicnnbhaadoor", sum := "982be7dfac784bbdfb7c8899cd8ff8dace6c567ec4efac191c18c71aa7afe322", checked := Tryd.checked }
namespace Rows
def none {H : Type} : Left H := { results := [], args := [] }

/- WHAT THE LISTED PACKAGE-LEVEL VARIABLES READ AS WHEN THE CALL BEGINS. Each datum BY PROGRAM (the guide's laid-datum.mjs) off the statement by which the dump's own 'gosem.cut.vars' lays the variable. In a bare row this is a premise. The card (YtnilepaicnnbhaaDoorCards.lean) ties it to the program's text. -/
def laid_solvent_field_fields {H : Type} : DataW H := .agg [.agg [.lit (.int .i64 8), .lit (.int .i64 285)], .agg [.lit (.int .i64 16), .lit (.int .i64 69643)]]

/-- 'solventlaw09.DistanceKeepsPromise': WHATEVER THE INPUT: true; the input reads as it did. -/
def distanceKeepsPromiseSpec : ChangeSpec := { name := "distanceKeepsPromise", fn := fun _ => fun
  | [d1, d2, d3] => { results := [.lit (.bool true)], args := [d1, d2, d3] }
  | _ => none }
def distanceKeepsPromiseRow : OpenClaim := { program := "ytnilepaicnnbhaadoor", sum := "982be7dfac784bbdfb7c8899cd8ff8dace6c567ec4efac191c18c71aa7afe322", func := "solvent/solventlaw09.DistanceKeepsPromise", spec := "distanceKeepsPromise", unfollowed := true, recurses := true, named := ["solvent/field.fields"], apart := false, laid := [("solvent/field.fields", laid_solvent_field_fields)] }
def DistanceKeepsPromiseSaid : Prop := distanceKeepsPromiseRow.holds Tryd.pinned (OpenSpec.ofChange distanceKeepsPromiseSpec)

/-- ITS FALSE NEIGHBOUR: 'it returns false'. Refute it at one input. -/
def distanceKeepsPromiseWrong : ChangeSpec := { name := "distanceKeepsPromise", fn := fun _ => fun
  | [d1, d2, d3] => { results := [.lit (.bool false)], args := [d1, d2, d3] }
  | _ => none }
def DistanceKeepsPromiseWrongFalsely : Prop := distanceKeepsPromiseRow.holds Tryd.pinned (OpenSpec.ofChange distanceKeepsPromiseWrong)

/-- 'solventlaw09.DistanceFatal': WHATEVER THE INPUT: true; the input reads as it did. -/
def distanceFatalSpec : ChangeSpec := { name := "distanceFatal", fn := fun _ => fun
  | [d1, d2] => { results := [.lit (.bool true)], args := [d1, d2] }
  | _ => none }
def distanceFatalRow : OpenClaim := { program := "ytnilepaicnnbhaadoor", sum := "982be7dfac784bbdfb7c8899cd8ff8dace6c567ec4efac191c18c71aa7afe322", func := "solvent/solventlaw09.DistanceFatal", spec := "distanceFatal", unfollowed := true, recurses := true, named := ["solvent/field.fields"], apart := false, laid := [("solvent/field.fields", laid_solvent_field_fields)] }
def DistanceFatalSaid : Prop := distanceFatalRow.holds Tryd.pinned (OpenSpec.ofChange distanceFatalSpec)

/-- ITS FALSE NEIGHBOUR: 'it returns false'. Refute it at one input. -/
def distanceFatalWrong : ChangeSpec := { name := "distanceFatal", fn := fun _ => fun
  | [d1, d2] => { results := [.lit (.bool false)], args := [d1, d2] }
  | _ => none }
def DistanceFatalWrongFalsely : Prop := distanceFatalRow.holds Tryd.pinned (OpenSpec.ofChange distanceFatalWrong)

/-- 'solventlaw09.DistanceSteps': WHATEVER THE INPUT: true; the input reads as it did. -/
def distanceStepsSpec : ChangeSpec := { name := "distanceSteps", fn := fun _ => fun
  | [d1, d2, d3] => { results := [.lit (.bool true)], args := [d1, d2, d3] }
  | _ => none }
def distanceStepsRow : OpenClaim := { program := "ytnilepaicnnbhaadoor", sum := "982be7dfac784bbdfb7c8899cd8ff8dace6c567ec4efac191c18c71aa7afe322", func := "solvent/solventlaw09.DistanceSteps", spec := "distanceSteps", unfollowed := true, recurses := true, named := ["solvent/field.fields"], apart := false, laid := [("solvent/field.fields", laid_solvent_field_fields)] }
def DistanceStepsSaid : Prop := distanceStepsRow.holds Tryd.pinned (OpenSpec.ofChange distanceStepsSpec)

/-- ITS FALSE NEIGHBOUR: 'it returns false'. Refute it at one input. -/
def distanceStepsWrong : ChangeSpec := { name := "distanceSteps", fn := fun _ => fun
  | [d1, d2, d3] => { results := [.lit (.bool false)], args := [d1, d2, d3] }
  | _ => none }
def DistanceStepsWrongFalsely : Prop := distanceStepsRow.holds Tryd.pinned (OpenSpec.ofChange distanceStepsWrong)

/-- 'solventlaw09.DistanceBounds': WHATEVER THE INPUT: true; the input reads as it did. -/
def distanceBoundsSpec : ChangeSpec := { name := "distanceBounds", fn := fun _ => fun
  | [d] => { results := [.lit (.bool true)], args := [d] }
  | _ => none }
def distanceBoundsRow : OpenClaim := { program := "ytnilepaicnnbhaadoor", sum := "982be7dfac784bbdfb7c8899cd8ff8dace6c567ec4efac191c18c71aa7afe322", func := "solvent/solventlaw09.DistanceBounds", spec := "distanceBounds", unfollowed := true, recurses := true, named := ["solvent/field.fields"], apart := false, laid := [("solvent/field.fields", laid_solvent_field_fields)] }
def DistanceBoundsSaid : Prop := distanceBoundsRow.holds Tryd.pinned (OpenSpec.ofChange distanceBoundsSpec)

/-- ITS FALSE NEIGHBOUR: 'it returns false'. Refute it at one input. -/
def distanceBoundsWrong : ChangeSpec := { name := "distanceBounds", fn := fun _ => fun
  | [d] => { results := [.lit (.bool false)], args := [d] }
  | _ => none }
def DistanceBoundsWrongFalsely : Prop := distanceBoundsRow.holds Tryd.pinned (OpenSpec.ofChange distanceBoundsWrong)

/-- 'solventlaw09.DistanceRacks': WHATEVER THE INPUT: true; the input reads as it did. -/
def distanceRacksSpec : ChangeSpec := { name := "distanceRacks", fn := fun _ => fun
  | [d1, d2, d3, d4, d5] => { results := [.lit (.bool true)], args := [d1, d2, d3, d4, d5] }
  | _ => none }
def distanceRacksRow : OpenClaim := { program := "ytnilepaicnnbhaadoor", sum := "982be7dfac784bbdfb7c8899cd8ff8dace6c567ec4efac191c18c71aa7afe322", func := "solvent/solventlaw09.DistanceRacks", spec := "distanceRacks", unfollowed := true, recurses := true, named := ["solvent/field.fields"], apart := false, laid := [("solvent/field.fields", laid_solvent_field_fields)] }
def DistanceRacksSaid : Prop := distanceRacksRow.holds Tryd.pinned (OpenSpec.ofChange distanceRacksSpec)

/-- ITS FALSE NEIGHBOUR: 'it returns false'. Refute it at one input. -/
def distanceRacksWrong : ChangeSpec := { name := "distanceRacks", fn := fun _ => fun
  | [d1, d2, d3, d4, d5] => { results := [.lit (.bool false)], args := [d1, d2, d3, d4, d5] }
  | _ => none }
def DistanceRacksWrongFalsely : Prop := distanceRacksRow.holds Tryd.pinned (OpenSpec.ofChange distanceRacksWrong)

/- THE SECOND FORM. 'bulk': how many values and letters a reading holds, each counted each time it is reached (what is shared counts as often as it is met; a slice's spare places count too). A statement '..UptoSaid' is the law's where the arguments, and the package variables that the reading takes, are together of bulk at most 1048576: NARROWER than '..Said'. Prove '..Said' where nothing that the law and all that it calls make is longer than what came in: it says more and counts as full. Else prove '..UptoSaid'. A law counts once. -/
mutual
def uptoBulk {H : Type} : DataW H → Nat
  | .lit (.string bytes) => bytes.length + 1
  | .lit _ => 1
  | .nil => 1
  | .ptr d => uptoBulk d + 1
  | .slice elems spare => uptoBulkAll elems + uptoBulkAll spare + 1
  | .agg parts => uptoBulkAll parts + 1
  | .iface _ d => uptoBulk d + 1
  | .map entries => uptoBulkEntries entries + 1
  | .held _ => 1
def uptoBulkAll {H : Type} : List (DataW H) → Nat
  | [] => 0
  | d :: r => uptoBulk d + uptoBulkAll r
def uptoBulkEntries {H : Type} : List (Lit × DataW H) → Nat
  | [] => 0
  | x :: r => uptoBulkEntry x + uptoBulkEntries r
def uptoBulkEntry {H : Type} : Lit × DataW H → Nat
  | (.string bytes, d) => bytes.length + uptoBulk d + 1
  | (_, d) => uptoBulk d + 1
 end
def uptoSmall : (H : Type) → List (DataW H) → Bool := fun _ ds => decide (uptoBulkAll ds ≤ 1048576)
def OpenSpec.upto (s : _root_.Go.ChangeSpec) : _root_.Go.OpenSpec := { _root_.Go.OpenSpec.ofChange s with cond := some uptoSmall }

/-- 'solventlaw09.DistanceKeepsPromise', WHERE WHAT IT READS IS OF BULK AT MOST 1048576: true; the input reads as it did. -/
def distanceKeepsPromiseUptoRow : OpenClaim := { program := "ytnilepaicnnbhaadoor", sum := "982be7dfac784bbdfb7c8899cd8ff8dace6c567ec4efac191c18c71aa7afe322", func := "solvent/solventlaw09.DistanceKeepsPromise", spec := "distanceKeepsPromise", unfollowed := true, recurses := true, named := ["solvent/field.fields"], apart := false, laid := [("solvent/field.fields", laid_solvent_field_fields)], narrowed := true }
def DistanceKeepsPromiseUptoSaid : Prop := distanceKeepsPromiseUptoRow.holds Tryd.pinned (OpenSpec.upto distanceKeepsPromiseSpec)

/-- 'solventlaw09.DistanceFatal', WHERE WHAT IT READS IS OF BULK AT MOST 1048576: true; the input reads as it did. -/
def distanceFatalUptoRow : OpenClaim := { program := "ytnilepaicnnbhaadoor", sum := "982be7dfac784bbdfb7c8899cd8ff8dace6c567ec4efac191c18c71aa7afe322", func := "solvent/solventlaw09.DistanceFatal", spec := "distanceFatal", unfollowed := true, recurses := true, named := ["solvent/field.fields"], apart := false, laid := [("solvent/field.fields", laid_solvent_field_fields)], narrowed := true }
def DistanceFatalUptoSaid : Prop := distanceFatalUptoRow.holds Tryd.pinned (OpenSpec.upto distanceFatalSpec)

/-- 'solventlaw09.DistanceSteps', WHERE WHAT IT READS IS OF BULK AT MOST 1048576: true; the input reads as it did. -/
def distanceStepsUptoRow : OpenClaim := { program := "ytnilepaicnnbhaadoor", sum := "982be7dfac784bbdfb7c8899cd8ff8dace6c567ec4efac191c18c71aa7afe322", func := "solvent/solventlaw09.DistanceSteps", spec := "distanceSteps", unfollowed := true, recurses := true, named := ["solvent/field.fields"], apart := false, laid := [("solvent/field.fields", laid_solvent_field_fields)], narrowed := true }
def DistanceStepsUptoSaid : Prop := distanceStepsUptoRow.holds Tryd.pinned (OpenSpec.upto distanceStepsSpec)

/-- 'solventlaw09.DistanceBounds', WHERE WHAT IT READS IS OF BULK AT MOST 1048576: true; the input reads as it did. -/
def distanceBoundsUptoRow : OpenClaim := { program := "ytnilepaicnnbhaadoor", sum := "982be7dfac784bbdfb7c8899cd8ff8dace6c567ec4efac191c18c71aa7afe322", func := "solvent/solventlaw09.DistanceBounds", spec := "distanceBounds", unfollowed := true, recurses := true, named := ["solvent/field.fields"], apart := false, laid := [("solvent/field.fields", laid_solvent_field_fields)], narrowed := true }
def DistanceBoundsUptoSaid : Prop := distanceBoundsUptoRow.holds Tryd.pinned (OpenSpec.upto distanceBoundsSpec)

/-- 'solventlaw09.DistanceRacks', WHERE WHAT IT READS IS OF BULK AT MOST 1048576: true; the input reads as it did. -/
def distanceRacksUptoRow : OpenClaim := { program := "ytnilepaicnnbhaadoor", sum := "982be7dfac784bbdfb7c8899cd8ff8dace6c567ec4efac191c18c71aa7afe322", func := "solvent/solventlaw09.DistanceRacks", spec := "distanceRacks", unfollowed := true, recurses := true, named := ["solvent/field.fields"], apart := false, laid := [("solvent/field.fields", laid_solvent_field_fields)], narrowed := true }
def DistanceRacksUptoSaid : Prop := distanceRacksUptoRow.holds Tryd.pinned (OpenSpec.upto distanceRacksSpec)

end Rows
end Go.Proofs.YtnilepaicnnbhaaDoor
