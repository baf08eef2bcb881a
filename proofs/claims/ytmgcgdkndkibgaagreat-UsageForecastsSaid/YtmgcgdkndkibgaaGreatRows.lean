/-
  No cell of these rows narrows 'for every input' (looked for: loops, veiled, ifaces, maps, wideKeys, modest, calm, conditions, laid).
  DERIVED. THE GIVEN ROWS OF THIS SEAT. 6 by the template 'for every input the law returns true; each argument reads behind the call as it read before'; 0 by the template 'total and deterministic' (their statements: YtmgcgdkndkibgaaGreatTotals.lean).
  GIVEN WITH THE SEED: the statements are not yours to turn. If you find one false, say at which input.
  Laid BY PROGRAM, IN A SANDBOX (cutbox-rows.mjs): the forced cells as the released guide's own fill.sh prints them over the translation 304e5b0bae32695a… (all of the seat's roots in one cut). By AI agents, Wed Nov 11 2026. No macro, syntax, notation, axiom, sorry.
-/
import Derived.Test.YtmgcgdkndkibgaaGreatChecked
import GoSem.Claim
import GoSem.ClaimJoined
import GoSem.ClaimMapViews
import Derived.JoinedTies
import Derived.KernelRfl
namespace Go.Proofs.YtmgcgdkndkibgaaGreat
/- THE CELL 'sum', in the pinned program and in every row, IS THE sha256 OF THE DUMP (.gsa) THAT YtmgcgdkndkibgaaGreatProg.lean LOADS. Nothing in Lean hashes anything: it is a label: what it is worth is what the hold of that sum in a sandbox is worth. -/
noncomputable def Tryz.pinned : Pinned := { name := "ytmgcgdkndkibgaagreat", sum := "304e5b0bae32695a0cc4241e419c18f6ce7c48fb0e258e45800754239efd951d", checked := Tryz.checked }
namespace Rows
def none {H : Type} : Left H := { results := [], args := [] }

/-- 'solventlaw28.UsageMatchesSpec': WHATEVER THE INPUT: true; the input reads as it did. -/
def usageMatchesSpecSpec : ChangeSpec := { name := "usageMatchesSpec", fn := fun _ => fun
  | [d1, d2] => { results := [.lit (.bool true)], args := [d1, d2] }
  | _ => none }
def usageMatchesSpecRow : OpenClaim := { program := "ytmgcgdkndkibgaagreat", sum := "304e5b0bae32695a0cc4241e419c18f6ce7c48fb0e258e45800754239efd951d", func := "solvent/solventlaw28.UsageMatchesSpec", spec := "usageMatchesSpec", inPlace := ["slices.overlaps[solvent/volume.volume]", "slices.overlaps[solvent/volume.snapshot]"], unfollowed := true, recurses := true, apart := false }
def UsageMatchesSpecSaid : Prop := usageMatchesSpecRow.holds Tryz.pinned (OpenSpec.ofChange usageMatchesSpecSpec)

/-- ITS FALSE NEIGHBOUR: 'it returns false'. Refute it at one input. -/
def usageMatchesSpecWrong : ChangeSpec := { name := "usageMatchesSpec", fn := fun _ => fun
  | [d1, d2] => { results := [.lit (.bool false)], args := [d1, d2] }
  | _ => none }
def UsageMatchesSpecWrongFalsely : Prop := usageMatchesSpecRow.holds Tryz.pinned (OpenSpec.ofChange usageMatchesSpecWrong)

/-- 'solventlaw28.UsageForecastMatchesSpec': WHATEVER THE INPUT: true; the input reads as it did. -/
def usageForecastMatchesSpecSpec : ChangeSpec := { name := "usageForecastMatchesSpec", fn := fun _ => fun
  | [d1, d2, d3, d4] => { results := [.lit (.bool true)], args := [d1, d2, d3, d4] }
  | _ => none }
def usageForecastMatchesSpecRow : OpenClaim := { program := "ytmgcgdkndkibgaagreat", sum := "304e5b0bae32695a0cc4241e419c18f6ce7c48fb0e258e45800754239efd951d", func := "solvent/solventlaw28.UsageForecastMatchesSpec", spec := "usageForecastMatchesSpec", inPlace := ["slices.overlaps[solvent/volume.volume]", "slices.overlaps[solvent/volume.snapshot]"], unfollowed := true, recurses := true, apart := false }
def UsageForecastMatchesSpecSaid : Prop := usageForecastMatchesSpecRow.holds Tryz.pinned (OpenSpec.ofChange usageForecastMatchesSpecSpec)

/-- ITS FALSE NEIGHBOUR: 'it returns false'. Refute it at one input. -/
def usageForecastMatchesSpecWrong : ChangeSpec := { name := "usageForecastMatchesSpec", fn := fun _ => fun
  | [d1, d2, d3, d4] => { results := [.lit (.bool false)], args := [d1, d2, d3, d4] }
  | _ => none }
def UsageForecastMatchesSpecWrongFalsely : Prop := usageForecastMatchesSpecRow.holds Tryz.pinned (OpenSpec.ofChange usageForecastMatchesSpecWrong)

/-- 'solventlaw28.UsageChunksMatchSpec': WHATEVER THE INPUT: true; the input reads as it did. -/
def usageChunksMatchSpecSpec : ChangeSpec := { name := "usageChunksMatchSpec", fn := fun _ => fun
  | [d1, d2, d3] => { results := [.lit (.bool true)], args := [d1, d2, d3] }
  | _ => none }
def usageChunksMatchSpecRow : OpenClaim := { program := "ytmgcgdkndkibgaagreat", sum := "304e5b0bae32695a0cc4241e419c18f6ce7c48fb0e258e45800754239efd951d", func := "solvent/solventlaw28.UsageChunksMatchSpec", spec := "usageChunksMatchSpec", inPlace := ["slices.overlaps[solvent/volume.volume]", "slices.overlaps[solvent/volume.snapshot]"], unfollowed := true, recurses := true, apart := false }
def UsageChunksMatchSpecSaid : Prop := usageChunksMatchSpecRow.holds Tryz.pinned (OpenSpec.ofChange usageChunksMatchSpecSpec)

/-- ITS FALSE NEIGHBOUR: 'it returns false'. Refute it at one input. -/
def usageChunksMatchSpecWrong : ChangeSpec := { name := "usageChunksMatchSpec", fn := fun _ => fun
  | [d1, d2, d3] => { results := [.lit (.bool false)], args := [d1, d2, d3] }
  | _ => none }
def UsageChunksMatchSpecWrongFalsely : Prop := usageChunksMatchSpecRow.holds Tryz.pinned (OpenSpec.ofChange usageChunksMatchSpecWrong)

/-- 'solventlaw28.UsageAddsUp': WHATEVER THE INPUT: true; the input reads as it did. -/
def usageAddsUpSpec : ChangeSpec := { name := "usageAddsUp", fn := fun _ => fun
  | [d] => { results := [.lit (.bool true)], args := [d] }
  | _ => none }
def usageAddsUpRow : OpenClaim := { program := "ytmgcgdkndkibgaagreat", sum := "304e5b0bae32695a0cc4241e419c18f6ce7c48fb0e258e45800754239efd951d", func := "solvent/solventlaw28.UsageAddsUp", spec := "usageAddsUp", inPlace := ["slices.overlaps[solvent/volume.volume]", "slices.overlaps[solvent/volume.snapshot]"], unfollowed := true, recurses := true, apart := false }
def UsageAddsUpSaid : Prop := usageAddsUpRow.holds Tryz.pinned (OpenSpec.ofChange usageAddsUpSpec)

/-- ITS FALSE NEIGHBOUR: 'it returns false'. Refute it at one input. -/
def usageAddsUpWrong : ChangeSpec := { name := "usageAddsUp", fn := fun _ => fun
  | [d] => { results := [.lit (.bool false)], args := [d] }
  | _ => none }
def UsageAddsUpWrongFalsely : Prop := usageAddsUpRow.holds Tryz.pinned (OpenSpec.ofChange usageAddsUpWrong)

/-- 'solventlaw28.UsageForecasts': WHATEVER THE INPUT: true; the input reads as it did. -/
def usageForecastsSpec : ChangeSpec := { name := "usageForecasts", fn := fun _ => fun
  | [d1, d2, d3, d4, d5] => { results := [.lit (.bool true)], args := [d1, d2, d3, d4, d5] }
  | _ => none }
def usageForecastsRow : OpenClaim := { program := "ytmgcgdkndkibgaagreat", sum := "304e5b0bae32695a0cc4241e419c18f6ce7c48fb0e258e45800754239efd951d", func := "solvent/solventlaw28.UsageForecasts", spec := "usageForecasts", inPlace := ["slices.overlaps[solvent/volume.volume]", "slices.overlaps[solvent/volume.snapshot]"], unfollowed := true, recurses := true, apart := false }
def UsageForecastsSaid : Prop := usageForecastsRow.holds Tryz.pinned (OpenSpec.ofChange usageForecastsSpec)

/-- ITS FALSE NEIGHBOUR: 'it returns false'. Refute it at one input. -/
def usageForecastsWrong : ChangeSpec := { name := "usageForecasts", fn := fun _ => fun
  | [d1, d2, d3, d4, d5] => { results := [.lit (.bool false)], args := [d1, d2, d3, d4, d5] }
  | _ => none }
def UsageForecastsWrongFalsely : Prop := usageForecastsRow.holds Tryz.pinned (OpenSpec.ofChange usageForecastsWrong)

/-- 'solventlaw28.UsageSeparates': WHATEVER THE INPUT: true; the input reads as it did. -/
def usageSeparatesSpec : ChangeSpec := { name := "usageSeparates", fn := fun _ => fun
  | [d1, d2, d3, d4] => { results := [.lit (.bool true)], args := [d1, d2, d3, d4] }
  | _ => none }
def usageSeparatesRow : OpenClaim := { program := "ytmgcgdkndkibgaagreat", sum := "304e5b0bae32695a0cc4241e419c18f6ce7c48fb0e258e45800754239efd951d", func := "solvent/solventlaw28.UsageSeparates", spec := "usageSeparates", inPlace := ["slices.overlaps[solvent/volume.volume]", "slices.overlaps[solvent/volume.snapshot]"], unfollowed := true, recurses := true, apart := false }
def UsageSeparatesSaid : Prop := usageSeparatesRow.holds Tryz.pinned (OpenSpec.ofChange usageSeparatesSpec)

/-- ITS FALSE NEIGHBOUR: 'it returns false'. Refute it at one input. -/
def usageSeparatesWrong : ChangeSpec := { name := "usageSeparates", fn := fun _ => fun
  | [d1, d2, d3, d4] => { results := [.lit (.bool false)], args := [d1, d2, d3, d4] }
  | _ => none }
def UsageSeparatesWrongFalsely : Prop := usageSeparatesRow.holds Tryz.pinned (OpenSpec.ofChange usageSeparatesWrong)

/- THE SECOND FORM. 'bulk': how many values and letters a reading holds, each counted each time it is reached (what is shared counts as often as it is met; a slice's spare places count too). A statement '..UptoSaid' is the law's where the arguments, and the package variables that the reading takes, are together of bulk at most 1048576: NARROWER than '..Said'. Prove '..Said' where nothing that the law and all that it calls make is longer than what came in: it says more and counts as full. Else prove '..UptoSaid'. A law counts once. -/
mutual
def uptoBulk {H : Type} : DataW H → Nat
  | .lit (.string bytes) => bytes.length + 1
  | .lit _ => 1
  | .nil => 1
  | .ptr d => uptoBulk d + 1
  | .slice elems spare => uptoBulkAll elems + uptoBulkAll spare + 1
  | .agg parts => uptoBulkAll parts + 1
  | .iface _ d => uptoBulk d + 1
  | .map entries => uptoBulkEntries entries + 1
  | .held _ => 1
def uptoBulkAll {H : Type} : List (DataW H) → Nat
  | [] => 0
  | d :: r => uptoBulk d + uptoBulkAll r
def uptoBulkEntries {H : Type} : List (Lit × DataW H) → Nat
  | [] => 0
  | x :: r => uptoBulkEntry x + uptoBulkEntries r
def uptoBulkEntry {H : Type} : Lit × DataW H → Nat
  | (.string bytes, d) => bytes.length + uptoBulk d + 1
  | (_, d) => uptoBulk d + 1
 end
def uptoSmall : (H : Type) → List (DataW H) → Bool := fun _ ds => decide (uptoBulkAll ds ≤ 1048576)
def OpenSpec.upto (s : _root_.Go.ChangeSpec) : _root_.Go.OpenSpec := { _root_.Go.OpenSpec.ofChange s with cond := some uptoSmall }

/-- 'solventlaw28.UsageMatchesSpec', WHERE WHAT IT READS IS OF BULK AT MOST 1048576: true; the input reads as it did. -/
def usageMatchesSpecUptoRow : OpenClaim := { program := "ytmgcgdkndkibgaagreat", sum := "304e5b0bae32695a0cc4241e419c18f6ce7c48fb0e258e45800754239efd951d", func := "solvent/solventlaw28.UsageMatchesSpec", spec := "usageMatchesSpec", inPlace := ["slices.overlaps[solvent/volume.volume]", "slices.overlaps[solvent/volume.snapshot]"], unfollowed := true, recurses := true, apart := false, narrowed := true }
def UsageMatchesSpecUptoSaid : Prop := usageMatchesSpecUptoRow.holds Tryz.pinned (OpenSpec.upto usageMatchesSpecSpec)

/-- 'solventlaw28.UsageForecastMatchesSpec', WHERE WHAT IT READS IS OF BULK AT MOST 1048576: true; the input reads as it did. -/
def usageForecastMatchesSpecUptoRow : OpenClaim := { program := "ytmgcgdkndkibgaagreat", sum := "304e5b0bae32695a0cc4241e419c18f6ce7c48fb0e258e45800754239efd951d", func := "solvent/solventlaw28.UsageForecastMatchesSpec", spec := "usageForecastMatchesSpec", inPlace := ["slices.overlaps[solvent/volume.volume]", "slices.overlaps[solvent/volume.snapshot]"], unfollowed := true, recurses := true, apart := false, narrowed := true }
def UsageForecastMatchesSpecUptoSaid : Prop := usageForecastMatchesSpecUptoRow.holds Tryz.pinned (OpenSpec.upto usageForecastMatchesSpecSpec)

/-- 'solventlaw28.UsageChunksMatchSpec', WHERE WHAT IT READS IS OF BULK AT MOST 1048576: true; the input reads as it did. -/
def usageChunksMatchSpecUptoRow : OpenClaim := { program := "ytmgcgdkndkibgaagreat", sum := "304e5b0bae32695a0cc4241e419c18f6ce7c48fb0e258e45800754239efd951d", func := "solvent/solventlaw28.UsageChunksMatchSpec", spec := "usageChunksMatchSpec", inPlace := ["slices.overlaps[solvent/volume.volume]", "slices.overlaps[solvent/volume.snapshot]"], unfollowed := true, recurses := true, apart := false, narrowed := true }
def UsageChunksMatchSpecUptoSaid : Prop := usageChunksMatchSpecUptoRow.holds Tryz.pinned (OpenSpec.upto usageChunksMatchSpecSpec)

/-- 'solventlaw28.UsageAddsUp', WHERE WHAT IT READS IS OF BULK AT MOST 1048576: true; the input reads as it did. -/
def usageAddsUpUptoRow : OpenClaim := { program := "ytmgcgdkndkibgaagreat", sum := "304e5b0bae32695a0cc4241e419c18f6ce7c48fb0e258e45800754239efd951d", func := "solvent/solventlaw28.UsageAddsUp", spec := "usageAddsUp", inPlace := ["slices.overlaps[solvent/volume.volume]", "slices.overlaps[solvent/volume.snapshot]"], unfollowed := true, recurses := true, apart := false, narrowed := true }
def UsageAddsUpUptoSaid : Prop := usageAddsUpUptoRow.holds Tryz.pinned (OpenSpec.upto usageAddsUpSpec)

/-- 'solventlaw28.UsageForecasts', WHERE WHAT IT READS IS OF BULK AT MOST 1048576: true; the input reads as it did. -/
def usageForecastsUptoRow : OpenClaim := { program := "ytmgcgdkndkibgaagreat", sum := "304e5b0bae32695a0cc4241e419c18f6ce7c48fb0e258e45800754239efd951d", func := "solvent/solventlaw28.UsageForecasts", spec := "usageForecasts", inPlace := ["slices.overlaps[solvent/volume.volume]", "slices.overlaps[solvent/volume.snapshot]"], unfollowed := true, recurses := true, apart := false, narrowed := true }
def UsageForecastsUptoSaid : Prop := usageForecastsUptoRow.holds Tryz.pinned (OpenSpec.upto usageForecastsSpec)

/-- 'solventlaw28.UsageSeparates', WHERE WHAT IT READS IS OF BULK AT MOST 1048576: true; the input reads as it did. -/
def usageSeparatesUptoRow : OpenClaim := { program := "ytmgcgdkndkibgaagreat", sum := "304e5b0bae32695a0cc4241e419c18f6ce7c48fb0e258e45800754239efd951d", func := "solvent/solventlaw28.UsageSeparates", spec := "usageSeparates", inPlace := ["slices.overlaps[solvent/volume.volume]", "slices.overlaps[solvent/volume.snapshot]"], unfollowed := true, recurses := true, apart := false, narrowed := true }
def UsageSeparatesUptoSaid : Prop := usageSeparatesUptoRow.holds Tryz.pinned (OpenSpec.upto usageSeparatesSpec)

end Rows
end Go.Proofs.YtmgcgdkndkibgaaGreat
