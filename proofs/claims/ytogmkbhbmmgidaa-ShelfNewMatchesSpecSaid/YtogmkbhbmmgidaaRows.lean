/-
  No cell of these rows narrows 'for every input' (looked for: loops, veiled, ifaces, maps, wideKeys, modest, calm, conditions, laid).
  DERIVED. THE GIVEN ROWS OF THIS SEAT. 5 by the template 'for every input the law returns true; each argument reads behind the call as it read before'; 0 by the template 'total and deterministic' (their statements: YtogmkbhbmmgidaaTotals.lean).
  GIVEN WITH THE SEED: the statements are not yours to turn. If you find one false, say at which input.
  Laid BY PROGRAM, IN A SANDBOX (cutbox-rows.mjs): the forced cells as the released guide's own fill.sh prints them over the translation b16a2135c480e2b4… (all of the seat's roots in one cut). By AI agents, Wed Nov 11 2026. No macro, syntax, notation, axiom, sorry.
-/
import Derived.Test.YtogmkbhbmmgidaaChecked
import GoSem.Claim
import GoSem.ClaimJoined
import GoSem.ClaimMapViews
import Derived.JoinedTies
import Derived.KernelRfl
namespace Go.Proofs.Ytogmkbhbmmgidaa
/- THE CELL 'sum', in the pinned program and in every row, IS THE sha256 OF THE DUMP (.gsa) THAT YtogmkbhbmmgidaaProg.lean LOADS. Nothing in Lean hashes anything: it is a label: what it is worth is what the hold of that sum in a sandbox is worth. -/
noncomputable def Try.pinned : Pinned := { name := "ytogmkbhbmmgidaa", sum := "b16a2135c480e2b4aaae29ab458a627999392fc1e3b7f577f3686030978966ff", checked := Try.checked }
namespace Rows
def none {H : Type} : Left H := { results := [], args := [] }

/-- 'solventlaw17.ShelfNewMatchesSpec': WHATEVER THE INPUT: true; the input reads as it did. -/
def shelfNewMatchesSpecSpec : ChangeSpec := { name := "shelfNewMatchesSpec", fn := fun _ => fun
  | [d1, d2] => { results := [.lit (.bool true)], args := [d1, d2] }
  | _ => none }
def shelfNewMatchesSpecRow : OpenClaim := { program := "ytogmkbhbmmgidaa", sum := "b16a2135c480e2b4aaae29ab458a627999392fc1e3b7f577f3686030978966ff", func := "solvent/solventlaw17.ShelfNewMatchesSpec", spec := "shelfNewMatchesSpec", unfollowed := true, recurses := true, apart := false }
def ShelfNewMatchesSpecSaid : Prop := shelfNewMatchesSpecRow.holds Try.pinned (OpenSpec.ofChange shelfNewMatchesSpecSpec)

/-- ITS FALSE NEIGHBOUR: 'it returns false'. Refute it at one input. -/
def shelfNewMatchesSpecWrong : ChangeSpec := { name := "shelfNewMatchesSpec", fn := fun _ => fun
  | [d1, d2] => { results := [.lit (.bool false)], args := [d1, d2] }
  | _ => none }
def ShelfNewMatchesSpecWrongFalsely : Prop := shelfNewMatchesSpecRow.holds Try.pinned (OpenSpec.ofChange shelfNewMatchesSpecWrong)

/-- 'solventlaw17.ShelfFuseCounts': WHATEVER THE INPUT: true; the input reads as it did. -/
def shelfFuseCountsSpec : ChangeSpec := { name := "shelfFuseCounts", fn := fun _ => fun
  | [d1, d2] => { results := [.lit (.bool true)], args := [d1, d2] }
  | _ => none }
def shelfFuseCountsRow : OpenClaim := { program := "ytogmkbhbmmgidaa", sum := "b16a2135c480e2b4aaae29ab458a627999392fc1e3b7f577f3686030978966ff", func := "solvent/solventlaw17.ShelfFuseCounts", spec := "shelfFuseCounts", inPlace := ["maps.clone"], unfollowed := true, recurses := true, apart := false }
def ShelfFuseCountsSaid : Prop := shelfFuseCountsRow.holds Try.pinned (OpenSpec.ofChange shelfFuseCountsSpec)

/-- ITS FALSE NEIGHBOUR: 'it returns false'. Refute it at one input. -/
def shelfFuseCountsWrong : ChangeSpec := { name := "shelfFuseCounts", fn := fun _ => fun
  | [d1, d2] => { results := [.lit (.bool false)], args := [d1, d2] }
  | _ => none }
def ShelfFuseCountsWrongFalsely : Prop := shelfFuseCountsRow.holds Try.pinned (OpenSpec.ofChange shelfFuseCountsWrong)

/-- 'solventlaw17.ShelfTornWrites': WHATEVER THE INPUT: true; the input reads as it did. -/
def shelfTornWritesSpec : ChangeSpec := { name := "shelfTornWrites", fn := fun _ => fun
  | [d] => { results := [.lit (.bool true)], args := [d] }
  | _ => none }
def shelfTornWritesRow : OpenClaim := { program := "ytogmkbhbmmgidaa", sum := "b16a2135c480e2b4aaae29ab458a627999392fc1e3b7f577f3686030978966ff", func := "solvent/solventlaw17.ShelfTornWrites", spec := "shelfTornWrites", inPlace := ["maps.clone"], unfollowed := true, recurses := true, apart := false }
def ShelfTornWritesSaid : Prop := shelfTornWritesRow.holds Try.pinned (OpenSpec.ofChange shelfTornWritesSpec)

/-- ITS FALSE NEIGHBOUR: 'it returns false'. Refute it at one input. -/
def shelfTornWritesWrong : ChangeSpec := { name := "shelfTornWrites", fn := fun _ => fun
  | [d] => { results := [.lit (.bool false)], args := [d] }
  | _ => none }
def ShelfTornWritesWrongFalsely : Prop := shelfTornWritesRow.holds Try.pinned (OpenSpec.ofChange shelfTornWritesWrong)

/-- 'solventlaw17.ShelfPlacesAreDistinct': WHATEVER THE INPUT: true; the input reads as it did. -/
def shelfPlacesAreDistinctSpec : ChangeSpec := { name := "shelfPlacesAreDistinct", fn := fun _ => fun
  | [d1, d2, d3] => { results := [.lit (.bool true)], args := [d1, d2, d3] }
  | _ => none }
def shelfPlacesAreDistinctRow : OpenClaim := { program := "ytogmkbhbmmgidaa", sum := "b16a2135c480e2b4aaae29ab458a627999392fc1e3b7f577f3686030978966ff", func := "solvent/solventlaw17.ShelfPlacesAreDistinct", spec := "shelfPlacesAreDistinct", inPlace := ["maps.clone"], unfollowed := true, recurses := true, apart := false }
def ShelfPlacesAreDistinctSaid : Prop := shelfPlacesAreDistinctRow.holds Try.pinned (OpenSpec.ofChange shelfPlacesAreDistinctSpec)

/-- ITS FALSE NEIGHBOUR: 'it returns false'. Refute it at one input. -/
def shelfPlacesAreDistinctWrong : ChangeSpec := { name := "shelfPlacesAreDistinct", fn := fun _ => fun
  | [d1, d2, d3] => { results := [.lit (.bool false)], args := [d1, d2, d3] }
  | _ => none }
def ShelfPlacesAreDistinctWrongFalsely : Prop := shelfPlacesAreDistinctRow.holds Try.pinned (OpenSpec.ofChange shelfPlacesAreDistinctWrong)

/-- 'solventlaw17.ShelfFlushedSurvives': WHATEVER THE INPUT: true; the input reads as it did. -/
def shelfFlushedSurvivesSpec : ChangeSpec := { name := "shelfFlushedSurvives", fn := fun _ => fun
  | [d1, d2, d3] => { results := [.lit (.bool true)], args := [d1, d2, d3] }
  | _ => none }
def shelfFlushedSurvivesRow : OpenClaim := { program := "ytogmkbhbmmgidaa", sum := "b16a2135c480e2b4aaae29ab458a627999392fc1e3b7f577f3686030978966ff", func := "solvent/solventlaw17.ShelfFlushedSurvives", spec := "shelfFlushedSurvives", inPlace := ["maps.clone"], unfollowed := true, recurses := true, apart := false }
def ShelfFlushedSurvivesSaid : Prop := shelfFlushedSurvivesRow.holds Try.pinned (OpenSpec.ofChange shelfFlushedSurvivesSpec)

/-- ITS FALSE NEIGHBOUR: 'it returns false'. Refute it at one input. -/
def shelfFlushedSurvivesWrong : ChangeSpec := { name := "shelfFlushedSurvives", fn := fun _ => fun
  | [d1, d2, d3] => { results := [.lit (.bool false)], args := [d1, d2, d3] }
  | _ => none }
def ShelfFlushedSurvivesWrongFalsely : Prop := shelfFlushedSurvivesRow.holds Try.pinned (OpenSpec.ofChange shelfFlushedSurvivesWrong)

/- THE SECOND FORM. 'bulk': how many values and letters a reading holds, each counted each time it is reached (what is shared counts as often as it is met; a slice's spare places count too). A statement '..UptoSaid' is the law's where the arguments, and the package variables that the reading takes, are together of bulk at most 1048576: NARROWER than '..Said'. Prove '..Said' where nothing that the law and all that it calls make is longer than what came in: it says more and counts as full. Else prove '..UptoSaid'. A law counts once. -/
mutual
def uptoBulk {H : Type} : DataW H → Nat
  | .lit (.string bytes) => bytes.length + 1
  | .lit _ => 1
  | .nil => 1
  | .ptr d => uptoBulk d + 1
  | .slice elems spare => uptoBulkAll elems + uptoBulkAll spare + 1
  | .agg parts => uptoBulkAll parts + 1
  | .iface _ d => uptoBulk d + 1
  | .map entries => uptoBulkEntries entries + 1
  | .held _ => 1
def uptoBulkAll {H : Type} : List (DataW H) → Nat
  | [] => 0
  | d :: r => uptoBulk d + uptoBulkAll r
def uptoBulkEntries {H : Type} : List (Lit × DataW H) → Nat
  | [] => 0
  | x :: r => uptoBulkEntry x + uptoBulkEntries r
def uptoBulkEntry {H : Type} : Lit × DataW H → Nat
  | (.string bytes, d) => bytes.length + uptoBulk d + 1
  | (_, d) => uptoBulk d + 1
 end
def uptoSmall : (H : Type) → List (DataW H) → Bool := fun _ ds => decide (uptoBulkAll ds ≤ 1048576)
def OpenSpec.upto (s : _root_.Go.ChangeSpec) : _root_.Go.OpenSpec := { _root_.Go.OpenSpec.ofChange s with cond := some uptoSmall }

/-- 'solventlaw17.ShelfNewMatchesSpec', WHERE WHAT IT READS IS OF BULK AT MOST 1048576: true; the input reads as it did. -/
def shelfNewMatchesSpecUptoRow : OpenClaim := { program := "ytogmkbhbmmgidaa", sum := "b16a2135c480e2b4aaae29ab458a627999392fc1e3b7f577f3686030978966ff", func := "solvent/solventlaw17.ShelfNewMatchesSpec", spec := "shelfNewMatchesSpec", unfollowed := true, recurses := true, apart := false, narrowed := true }
def ShelfNewMatchesSpecUptoSaid : Prop := shelfNewMatchesSpecUptoRow.holds Try.pinned (OpenSpec.upto shelfNewMatchesSpecSpec)

/-- 'solventlaw17.ShelfFuseCounts', WHERE WHAT IT READS IS OF BULK AT MOST 1048576: true; the input reads as it did. -/
def shelfFuseCountsUptoRow : OpenClaim := { program := "ytogmkbhbmmgidaa", sum := "b16a2135c480e2b4aaae29ab458a627999392fc1e3b7f577f3686030978966ff", func := "solvent/solventlaw17.ShelfFuseCounts", spec := "shelfFuseCounts", inPlace := ["maps.clone"], unfollowed := true, recurses := true, apart := false, narrowed := true }
def ShelfFuseCountsUptoSaid : Prop := shelfFuseCountsUptoRow.holds Try.pinned (OpenSpec.upto shelfFuseCountsSpec)

/-- 'solventlaw17.ShelfTornWrites', WHERE WHAT IT READS IS OF BULK AT MOST 1048576: true; the input reads as it did. -/
def shelfTornWritesUptoRow : OpenClaim := { program := "ytogmkbhbmmgidaa", sum := "b16a2135c480e2b4aaae29ab458a627999392fc1e3b7f577f3686030978966ff", func := "solvent/solventlaw17.ShelfTornWrites", spec := "shelfTornWrites", inPlace := ["maps.clone"], unfollowed := true, recurses := true, apart := false, narrowed := true }
def ShelfTornWritesUptoSaid : Prop := shelfTornWritesUptoRow.holds Try.pinned (OpenSpec.upto shelfTornWritesSpec)

/-- 'solventlaw17.ShelfPlacesAreDistinct', WHERE WHAT IT READS IS OF BULK AT MOST 1048576: true; the input reads as it did. -/
def shelfPlacesAreDistinctUptoRow : OpenClaim := { program := "ytogmkbhbmmgidaa", sum := "b16a2135c480e2b4aaae29ab458a627999392fc1e3b7f577f3686030978966ff", func := "solvent/solventlaw17.ShelfPlacesAreDistinct", spec := "shelfPlacesAreDistinct", inPlace := ["maps.clone"], unfollowed := true, recurses := true, apart := false, narrowed := true }
def ShelfPlacesAreDistinctUptoSaid : Prop := shelfPlacesAreDistinctUptoRow.holds Try.pinned (OpenSpec.upto shelfPlacesAreDistinctSpec)

/-- 'solventlaw17.ShelfFlushedSurvives', WHERE WHAT IT READS IS OF BULK AT MOST 1048576: true; the input reads as it did. -/
def shelfFlushedSurvivesUptoRow : OpenClaim := { program := "ytogmkbhbmmgidaa", sum := "b16a2135c480e2b4aaae29ab458a627999392fc1e3b7f577f3686030978966ff", func := "solvent/solventlaw17.ShelfFlushedSurvives", spec := "shelfFlushedSurvives", inPlace := ["maps.clone"], unfollowed := true, recurses := true, apart := false, narrowed := true }
def ShelfFlushedSurvivesUptoSaid : Prop := shelfFlushedSurvivesUptoRow.holds Try.pinned (OpenSpec.upto shelfFlushedSurvivesSpec)

end Rows
end Go.Proofs.Ytogmkbhbmmgidaa
