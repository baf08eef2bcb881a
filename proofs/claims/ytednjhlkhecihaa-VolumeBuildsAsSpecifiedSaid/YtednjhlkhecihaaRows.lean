/-
  No cell of these rows narrows 'for every input' (looked for: loops, veiled, ifaces, maps, wideKeys, modest, calm, conditions, laid).
  DERIVED. THE GIVEN ROWS OF THIS SEAT. 6 by the template 'for every input the law returns true; each argument reads behind the call as it read before'; 0 by the template 'total and deterministic' (their statements: YtednjhlkhecihaaTotals.lean).
  GIVEN WITH THE SEED: the statements are not yours to turn. If you find one false, say at which input.
  Laid BY PROGRAM, IN A SANDBOX (cutbox-rows.mjs): the forced cells as the released guide's own fill.sh prints them over the translation 5226045b962e298c… (all of the seat's roots in one cut). By AI agents, Wed Nov 11 2026. No macro, syntax, notation, axiom, sorry.
-/
import Derived.Test.YtednjhlkhecihaaChecked
import GoSem.Claim
import GoSem.ClaimJoined
import GoSem.ClaimMapViews
import Derived.JoinedTies
import Derived.KernelRfl
namespace Go.Proofs.Ytednjhlkhecihaa
/- THE CELL 'sum', in the pinned program and in every row, IS THE sha256 OF THE DUMP (.gsa) THAT YtednjhlkhecihaaProg.lean LOADS. Nothing in Lean hashes anything: it is a label: what it is worth is what the hold of that sum in a sandbox is worth. -/
noncomputable def Try.pinned : Pinned := { name := "ytednjhlkhecihaa", sum := "5226045b962e298c7123a671c3fe7311132d670c6d49203f11c89c4c05dbcfe5", checked := Try.checked }
namespace Rows
def none {H : Type} : Left H := { results := [], args := [] }

/-- 'solventlaw27.VolumeLastWrite': WHATEVER THE INPUT: true; the input reads as it did. -/
def volumeLastWriteSpec : ChangeSpec := { name := "volumeLastWrite", fn := fun _ => fun
  | [d1, d2, d3, d4, d5] => { results := [.lit (.bool true)], args := [d1, d2, d3, d4, d5] }
  | _ => none }
def volumeLastWriteRow : OpenClaim := { program := "ytednjhlkhecihaa", sum := "5226045b962e298c7123a671c3fe7311132d670c6d49203f11c89c4c05dbcfe5", func := "solvent/solventlaw27.VolumeLastWrite", spec := "volumeLastWrite", inPlace := ["slices.overlaps[solvent/volume.volume]", "slices.overlaps[solvent/volume.snapshot]"], unfollowed := true, recurses := true, apart := false }
def VolumeLastWriteSaid : Prop := volumeLastWriteRow.holds Try.pinned (OpenSpec.ofChange volumeLastWriteSpec)

/-- ITS FALSE NEIGHBOUR: 'it returns false'. Refute it at one input. -/
def volumeLastWriteWrong : ChangeSpec := { name := "volumeLastWrite", fn := fun _ => fun
  | [d1, d2, d3, d4, d5] => { results := [.lit (.bool false)], args := [d1, d2, d3, d4, d5] }
  | _ => none }
def VolumeLastWriteWrongFalsely : Prop := volumeLastWriteRow.holds Try.pinned (OpenSpec.ofChange volumeLastWriteWrong)

/-- 'solventlaw27.VolumeCounts': WHATEVER THE INPUT: true; the input reads as it did. -/
def volumeCountsSpec : ChangeSpec := { name := "volumeCounts", fn := fun _ => fun
  | [d] => { results := [.lit (.bool true)], args := [d] }
  | _ => none }
def volumeCountsRow : OpenClaim := { program := "ytednjhlkhecihaa", sum := "5226045b962e298c7123a671c3fe7311132d670c6d49203f11c89c4c05dbcfe5", func := "solvent/solventlaw27.VolumeCounts", spec := "volumeCounts", inPlace := ["slices.overlaps[solvent/volume.volume]", "slices.overlaps[solvent/volume.snapshot]"], unfollowed := true, recurses := true, apart := false }
def VolumeCountsSaid : Prop := volumeCountsRow.holds Try.pinned (OpenSpec.ofChange volumeCountsSpec)

/-- ITS FALSE NEIGHBOUR: 'it returns false'. Refute it at one input. -/
def volumeCountsWrong : ChangeSpec := { name := "volumeCounts", fn := fun _ => fun
  | [d] => { results := [.lit (.bool false)], args := [d] }
  | _ => none }
def VolumeCountsWrongFalsely : Prop := volumeCountsRow.holds Try.pinned (OpenSpec.ofChange volumeCountsWrong)

/-- 'solventlaw27.VolumeSnapshotsStay': WHATEVER THE INPUT: true; the input reads as it did. -/
def volumeSnapshotsStaySpec : ChangeSpec := { name := "volumeSnapshotsStay", fn := fun _ => fun
  | [d1, d2, d3] => { results := [.lit (.bool true)], args := [d1, d2, d3] }
  | _ => none }
def volumeSnapshotsStayRow : OpenClaim := { program := "ytednjhlkhecihaa", sum := "5226045b962e298c7123a671c3fe7311132d670c6d49203f11c89c4c05dbcfe5", func := "solvent/solventlaw27.VolumeSnapshotsStay", spec := "volumeSnapshotsStay", inPlace := ["slices.overlaps[solvent/volume.volume]", "slices.overlaps[solvent/volume.snapshot]"], unfollowed := true, recurses := true, apart := false }
def VolumeSnapshotsStaySaid : Prop := volumeSnapshotsStayRow.holds Try.pinned (OpenSpec.ofChange volumeSnapshotsStaySpec)

/-- ITS FALSE NEIGHBOUR: 'it returns false'. Refute it at one input. -/
def volumeSnapshotsStayWrong : ChangeSpec := { name := "volumeSnapshotsStay", fn := fun _ => fun
  | [d1, d2, d3] => { results := [.lit (.bool false)], args := [d1, d2, d3] }
  | _ => none }
def VolumeSnapshotsStayWrongFalsely : Prop := volumeSnapshotsStayRow.holds Try.pinned (OpenSpec.ofChange volumeSnapshotsStayWrong)

/-- 'solventlaw27.VolumesSeparate': WHATEVER THE INPUT: true; the input reads as it did. -/
def volumesSeparateSpec : ChangeSpec := { name := "volumesSeparate", fn := fun _ => fun
  | [d1, d2, d3] => { results := [.lit (.bool true)], args := [d1, d2, d3] }
  | _ => none }
def volumesSeparateRow : OpenClaim := { program := "ytednjhlkhecihaa", sum := "5226045b962e298c7123a671c3fe7311132d670c6d49203f11c89c4c05dbcfe5", func := "solvent/solventlaw27.VolumesSeparate", spec := "volumesSeparate", inPlace := ["slices.overlaps[solvent/volume.volume]", "slices.overlaps[solvent/volume.snapshot]"], unfollowed := true, recurses := true, apart := false }
def VolumesSeparateSaid : Prop := volumesSeparateRow.holds Try.pinned (OpenSpec.ofChange volumesSeparateSpec)

/-- ITS FALSE NEIGHBOUR: 'it returns false'. Refute it at one input. -/
def volumesSeparateWrong : ChangeSpec := { name := "volumesSeparate", fn := fun _ => fun
  | [d1, d2, d3] => { results := [.lit (.bool false)], args := [d1, d2, d3] }
  | _ => none }
def VolumesSeparateWrongFalsely : Prop := volumesSeparateRow.holds Try.pinned (OpenSpec.ofChange volumesSeparateWrong)

/-- 'solventlaw27.VolumeBuilds': WHATEVER THE INPUT: true; the input reads as it did. -/
def volumeBuildsSpec : ChangeSpec := { name := "volumeBuilds", fn := fun _ => fun
  | [d1, d2] => { results := [.lit (.bool true)], args := [d1, d2] }
  | _ => none }
def volumeBuildsRow : OpenClaim := { program := "ytednjhlkhecihaa", sum := "5226045b962e298c7123a671c3fe7311132d670c6d49203f11c89c4c05dbcfe5", func := "solvent/solventlaw27.VolumeBuilds", spec := "volumeBuilds", inPlace := ["slices.overlaps[solvent/volume.volume]", "slices.overlaps[solvent/volume.snapshot]"], unfollowed := true, recurses := true, apart := false }
def VolumeBuildsSaid : Prop := volumeBuildsRow.holds Try.pinned (OpenSpec.ofChange volumeBuildsSpec)

/-- ITS FALSE NEIGHBOUR: 'it returns false'. Refute it at one input. -/
def volumeBuildsWrong : ChangeSpec := { name := "volumeBuilds", fn := fun _ => fun
  | [d1, d2] => { results := [.lit (.bool false)], args := [d1, d2] }
  | _ => none }
def VolumeBuildsWrongFalsely : Prop := volumeBuildsRow.holds Try.pinned (OpenSpec.ofChange volumeBuildsWrong)

/-- 'solventlaw27.VolumeBuildsAsSpecified': WHATEVER THE INPUT: true; the input reads as it did. -/
def volumeBuildsAsSpecifiedSpec : ChangeSpec := { name := "volumeBuildsAsSpecified", fn := fun _ => fun
  | [d1, d2] => { results := [.lit (.bool true)], args := [d1, d2] }
  | _ => none }
def volumeBuildsAsSpecifiedRow : OpenClaim := { program := "ytednjhlkhecihaa", sum := "5226045b962e298c7123a671c3fe7311132d670c6d49203f11c89c4c05dbcfe5", func := "solvent/solventlaw27.VolumeBuildsAsSpecified", spec := "volumeBuildsAsSpecified", inPlace := ["slices.overlaps[solvent/volume.volume]", "slices.overlaps[solvent/volume.snapshot]"], unfollowed := true, recurses := true, apart := false }
def VolumeBuildsAsSpecifiedSaid : Prop := volumeBuildsAsSpecifiedRow.holds Try.pinned (OpenSpec.ofChange volumeBuildsAsSpecifiedSpec)

/-- ITS FALSE NEIGHBOUR: 'it returns false'. Refute it at one input. -/
def volumeBuildsAsSpecifiedWrong : ChangeSpec := { name := "volumeBuildsAsSpecified", fn := fun _ => fun
  | [d1, d2] => { results := [.lit (.bool false)], args := [d1, d2] }
  | _ => none }
def VolumeBuildsAsSpecifiedWrongFalsely : Prop := volumeBuildsAsSpecifiedRow.holds Try.pinned (OpenSpec.ofChange volumeBuildsAsSpecifiedWrong)

/- THE SECOND FORM. 'bulk': how many values and letters a reading holds, each counted each time it is reached (what is shared counts as often as it is met; a slice's spare places count too). A statement '..UptoSaid' is the law's where the arguments, and the package variables that the reading takes, are together of bulk at most 1048576: NARROWER than '..Said'. Prove '..Said' where nothing that the law and all that it calls make is longer than what came in: it says more and counts as full. Else prove '..UptoSaid'. A law counts once. -/
mutual
def uptoBulk {H : Type} : DataW H → Nat
  | .lit (.string bytes) => bytes.length + 1
  | .lit _ => 1
  | .nil => 1
  | .ptr d => uptoBulk d + 1
  | .slice elems spare => uptoBulkAll elems + uptoBulkAll spare + 1
  | .agg parts => uptoBulkAll parts + 1
  | .iface _ d => uptoBulk d + 1
  | .map entries => uptoBulkEntries entries + 1
  | .held _ => 1
def uptoBulkAll {H : Type} : List (DataW H) → Nat
  | [] => 0
  | d :: r => uptoBulk d + uptoBulkAll r
def uptoBulkEntries {H : Type} : List (Lit × DataW H) → Nat
  | [] => 0
  | x :: r => uptoBulkEntry x + uptoBulkEntries r
def uptoBulkEntry {H : Type} : Lit × DataW H → Nat
  | (.string bytes, d) => bytes.length + uptoBulk d + 1
  | (_, d) => uptoBulk d + 1
 end
def uptoSmall : (H : Type) → List (DataW H) → Bool := fun _ ds => decide (uptoBulkAll ds ≤ 1048576)
def OpenSpec.upto (s : _root_.Go.ChangeSpec) : _root_.Go.OpenSpec := { _root_.Go.OpenSpec.ofChange s with cond := some uptoSmall }

/-- 'solventlaw27.VolumeLastWrite', WHERE WHAT IT READS IS OF BULK AT MOST 1048576: true; the input reads as it did. -/
def volumeLastWriteUptoRow : OpenClaim := { program := "ytednjhlkhecihaa", sum := "5226045b962e298c7123a671c3fe7311132d670c6d49203f11c89c4c05dbcfe5", func := "solvent/solventlaw27.VolumeLastWrite", spec := "volumeLastWrite", inPlace := ["slices.overlaps[solvent/volume.volume]", "slices.overlaps[solvent/volume.snapshot]"], unfollowed := true, recurses := true, apart := false, narrowed := true }
def VolumeLastWriteUptoSaid : Prop := volumeLastWriteUptoRow.holds Try.pinned (OpenSpec.upto volumeLastWriteSpec)

/-- 'solventlaw27.VolumeCounts', WHERE WHAT IT READS IS OF BULK AT MOST 1048576: true; the input reads as it did. -/
def volumeCountsUptoRow : OpenClaim := { program := "ytednjhlkhecihaa", sum := "5226045b962e298c7123a671c3fe7311132d670c6d49203f11c89c4c05dbcfe5", func := "solvent/solventlaw27.VolumeCounts", spec := "volumeCounts", inPlace := ["slices.overlaps[solvent/volume.volume]", "slices.overlaps[solvent/volume.snapshot]"], unfollowed := true, recurses := true, apart := false, narrowed := true }
def VolumeCountsUptoSaid : Prop := volumeCountsUptoRow.holds Try.pinned (OpenSpec.upto volumeCountsSpec)

/-- 'solventlaw27.VolumeSnapshotsStay', WHERE WHAT IT READS IS OF BULK AT MOST 1048576: true; the input reads as it did. -/
def volumeSnapshotsStayUptoRow : OpenClaim := { program := "ytednjhlkhecihaa", sum := "5226045b962e298c7123a671c3fe7311132d670c6d49203f11c89c4c05dbcfe5", func := "solvent/solventlaw27.VolumeSnapshotsStay", spec := "volumeSnapshotsStay", inPlace := ["slices.overlaps[solvent/volume.volume]", "slices.overlaps[solvent/volume.snapshot]"], unfollowed := true, recurses := true, apart := false, narrowed := true }
def VolumeSnapshotsStayUptoSaid : Prop := volumeSnapshotsStayUptoRow.holds Try.pinned (OpenSpec.upto volumeSnapshotsStaySpec)

/-- 'solventlaw27.VolumesSeparate', WHERE WHAT IT READS IS OF BULK AT MOST 1048576: true; the input reads as it did. -/
def volumesSeparateUptoRow : OpenClaim := { program := "ytednjhlkhecihaa", sum := "5226045b962e298c7123a671c3fe7311132d670c6d49203f11c89c4c05dbcfe5", func := "solvent/solventlaw27.VolumesSeparate", spec := "volumesSeparate", inPlace := ["slices.overlaps[solvent/volume.volume]", "slices.overlaps[solvent/volume.snapshot]"], unfollowed := true, recurses := true, apart := false, narrowed := true }
def VolumesSeparateUptoSaid : Prop := volumesSeparateUptoRow.holds Try.pinned (OpenSpec.upto volumesSeparateSpec)

/-- 'solventlaw27.VolumeBuilds', WHERE WHAT IT READS IS OF BULK AT MOST 1048576: true; the input reads as it did. -/
def volumeBuildsUptoRow : OpenClaim := { program := "ytednjhlkhecihaa", sum := "5226045b962e298c7123a671c3fe7311132d670c6d49203f11c89c4c05dbcfe5", func := "solvent/solventlaw27.VolumeBuilds", spec := "volumeBuilds", inPlace := ["slices.overlaps[solvent/volume.volume]", "slices.overlaps[solvent/volume.snapshot]"], unfollowed := true, recurses := true, apart := false, narrowed := true }
def VolumeBuildsUptoSaid : Prop := volumeBuildsUptoRow.holds Try.pinned (OpenSpec.upto volumeBuildsSpec)

/-- 'solventlaw27.VolumeBuildsAsSpecified', WHERE WHAT IT READS IS OF BULK AT MOST 1048576: true; the input reads as it did. -/
def volumeBuildsAsSpecifiedUptoRow : OpenClaim := { program := "ytednjhlkhecihaa", sum := "5226045b962e298c7123a671c3fe7311132d670c6d49203f11c89c4c05dbcfe5", func := "solvent/solventlaw27.VolumeBuildsAsSpecified", spec := "volumeBuildsAsSpecified", inPlace := ["slices.overlaps[solvent/volume.volume]", "slices.overlaps[solvent/volume.snapshot]"], unfollowed := true, recurses := true, apart := false, narrowed := true }
def VolumeBuildsAsSpecifiedUptoSaid : Prop := volumeBuildsAsSpecifiedUptoRow.holds Try.pinned (OpenSpec.upto volumeBuildsAsSpecifiedSpec)

end Rows
end Go.Proofs.Ytednjhlkhecihaa
