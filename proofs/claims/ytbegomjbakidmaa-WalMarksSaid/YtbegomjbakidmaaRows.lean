/-
  No cell of these rows narrows 'for every input' (looked for: loops, veiled, ifaces, maps, wideKeys, modest, calm, conditions, laid).
  DERIVED. THE GIVEN ROWS OF THIS SEAT. 7 by the template 'for every input the law returns true; each argument reads behind the call as it read before'; 0 by the template 'total and deterministic' (their statements: YtbegomjbakidmaaTotals.lean).
  GIVEN WITH THE SEED: the statements are not yours to turn. If you find one false, say at which input.
  Laid BY PROGRAM, IN A SANDBOX (cutbox-rows.mjs): the forced cells as the released guide's own fill.sh prints them over the translation 8617aa593298519a… (all of the seat's roots in one cut). By AI agents, Wed Nov 11 2026. No macro, syntax, notation, axiom, sorry.
-/
import Derived.Test.YtbegomjbakidmaaChecked
import GoSem.Claim
import GoSem.ClaimJoined
import GoSem.ClaimMapViews
import Derived.JoinedTies
import Derived.KernelRfl
namespace Go.Proofs.Ytbegomjbakidmaa
/- THE CELL 'sum', in the pinned program and in every row, IS THE sha256 OF THE DUMP (.gsa) THAT YtbegomjbakidmaaProg.lean LOADS. Nothing in Lean hashes anything: it is a label: what it is worth is what the hold of that sum in a sandbox is worth. -/
noncomputable def Try.pinned : Pinned := { name := "ytbegomjbakidmaa", sum := "8617aa593298519a4bfeb275b01813c1a7425f2d92fcd233078daf3c6eeeddab", checked := Try.checked }
namespace Rows
def none {H : Type} : Left H := { results := [], args := [] }

/-- 'solventlaw18.WalReads': WHATEVER THE INPUT: true; the input reads as it did. -/
def walReadsSpec : ChangeSpec := { name := "walReads", fn := fun _ => fun
  | [d1, d2, d3] => { results := [.lit (.bool true)], args := [d1, d2, d3] }
  | _ => none }
def walReadsRow : OpenClaim := { program := "ytbegomjbakidmaa", sum := "8617aa593298519a4bfeb275b01813c1a7425f2d92fcd233078daf3c6eeeddab", func := "solvent/solventlaw18.WalReads", spec := "walReads", unfollowed := true, recurses := true, apart := false }
def WalReadsSaid : Prop := walReadsRow.holds Try.pinned (OpenSpec.ofChange walReadsSpec)

/-- ITS FALSE NEIGHBOUR: 'it returns false'. Refute it at one input. -/
def walReadsWrong : ChangeSpec := { name := "walReads", fn := fun _ => fun
  | [d1, d2, d3] => { results := [.lit (.bool false)], args := [d1, d2, d3] }
  | _ => none }
def WalReadsWrongFalsely : Prop := walReadsRow.holds Try.pinned (OpenSpec.ofChange walReadsWrong)

/-- 'solventlaw18.WalRestarts': WHATEVER THE INPUT: true; the input reads as it did. -/
def walRestartsSpec : ChangeSpec := { name := "walRestarts", fn := fun _ => fun
  | [d1, d2, d3] => { results := [.lit (.bool true)], args := [d1, d2, d3] }
  | _ => none }
def walRestartsRow : OpenClaim := { program := "ytbegomjbakidmaa", sum := "8617aa593298519a4bfeb275b01813c1a7425f2d92fcd233078daf3c6eeeddab", func := "solvent/solventlaw18.WalRestarts", spec := "walRestarts", unfollowed := true, recurses := true, apart := false }
def WalRestartsSaid : Prop := walRestartsRow.holds Try.pinned (OpenSpec.ofChange walRestartsSpec)

/-- ITS FALSE NEIGHBOUR: 'it returns false'. Refute it at one input. -/
def walRestartsWrong : ChangeSpec := { name := "walRestarts", fn := fun _ => fun
  | [d1, d2, d3] => { results := [.lit (.bool false)], args := [d1, d2, d3] }
  | _ => none }
def WalRestartsWrongFalsely : Prop := walRestartsRow.holds Try.pinned (OpenSpec.ofChange walRestartsWrong)

/-- 'solventlaw18.WalSeparate': WHATEVER THE INPUT: true; the input reads as it did. -/
def walSeparateSpec : ChangeSpec := { name := "walSeparate", fn := fun _ => fun
  | [d1, d2, d3] => { results := [.lit (.bool true)], args := [d1, d2, d3] }
  | _ => none }
def walSeparateRow : OpenClaim := { program := "ytbegomjbakidmaa", sum := "8617aa593298519a4bfeb275b01813c1a7425f2d92fcd233078daf3c6eeeddab", func := "solvent/solventlaw18.WalSeparate", spec := "walSeparate", unfollowed := true, recurses := true, apart := false }
def WalSeparateSaid : Prop := walSeparateRow.holds Try.pinned (OpenSpec.ofChange walSeparateSpec)

/-- ITS FALSE NEIGHBOUR: 'it returns false'. Refute it at one input. -/
def walSeparateWrong : ChangeSpec := { name := "walSeparate", fn := fun _ => fun
  | [d1, d2, d3] => { results := [.lit (.bool false)], args := [d1, d2, d3] }
  | _ => none }
def WalSeparateWrongFalsely : Prop := walSeparateRow.holds Try.pinned (OpenSpec.ofChange walSeparateWrong)

/-- 'solventlaw18.WalChains': WHATEVER THE INPUT: true; the input reads as it did. -/
def walChainsSpec : ChangeSpec := { name := "walChains", fn := fun _ => fun
  | [d1, d2, d3, d4, d5] => { results := [.lit (.bool true)], args := [d1, d2, d3, d4, d5] }
  | _ => none }
def walChainsRow : OpenClaim := { program := "ytbegomjbakidmaa", sum := "8617aa593298519a4bfeb275b01813c1a7425f2d92fcd233078daf3c6eeeddab", func := "solvent/solventlaw18.WalChains", spec := "walChains", unfollowed := true, recurses := true, apart := false }
def WalChainsSaid : Prop := walChainsRow.holds Try.pinned (OpenSpec.ofChange walChainsSpec)

/-- ITS FALSE NEIGHBOUR: 'it returns false'. Refute it at one input. -/
def walChainsWrong : ChangeSpec := { name := "walChains", fn := fun _ => fun
  | [d1, d2, d3, d4, d5] => { results := [.lit (.bool false)], args := [d1, d2, d3, d4, d5] }
  | _ => none }
def WalChainsWrongFalsely : Prop := walChainsRow.holds Try.pinned (OpenSpec.ofChange walChainsWrong)

/-- 'solventlaw18.WalDamage': WHATEVER THE INPUT: true; the input reads as it did. -/
def walDamageSpec : ChangeSpec := { name := "walDamage", fn := fun _ => fun
  | [d1, d2, d3, d4] => { results := [.lit (.bool true)], args := [d1, d2, d3, d4] }
  | _ => none }
def walDamageRow : OpenClaim := { program := "ytbegomjbakidmaa", sum := "8617aa593298519a4bfeb275b01813c1a7425f2d92fcd233078daf3c6eeeddab", func := "solvent/solventlaw18.WalDamage", spec := "walDamage", unfollowed := true, recurses := true, apart := false }
def WalDamageSaid : Prop := walDamageRow.holds Try.pinned (OpenSpec.ofChange walDamageSpec)

/-- ITS FALSE NEIGHBOUR: 'it returns false'. Refute it at one input. -/
def walDamageWrong : ChangeSpec := { name := "walDamage", fn := fun _ => fun
  | [d1, d2, d3, d4] => { results := [.lit (.bool false)], args := [d1, d2, d3, d4] }
  | _ => none }
def WalDamageWrongFalsely : Prop := walDamageRow.holds Try.pinned (OpenSpec.ofChange walDamageWrong)

/-- 'solventlaw18.WalCrash': WHATEVER THE INPUT: true; the input reads as it did. -/
def walCrashSpec : ChangeSpec := { name := "walCrash", fn := fun _ => fun
  | [d1, d2, d3, d4, d5] => { results := [.lit (.bool true)], args := [d1, d2, d3, d4, d5] }
  | _ => none }
def walCrashRow : OpenClaim := { program := "ytbegomjbakidmaa", sum := "8617aa593298519a4bfeb275b01813c1a7425f2d92fcd233078daf3c6eeeddab", func := "solvent/solventlaw18.WalCrash", spec := "walCrash", unfollowed := true, recurses := true, apart := false }
def WalCrashSaid : Prop := walCrashRow.holds Try.pinned (OpenSpec.ofChange walCrashSpec)

/-- ITS FALSE NEIGHBOUR: 'it returns false'. Refute it at one input. -/
def walCrashWrong : ChangeSpec := { name := "walCrash", fn := fun _ => fun
  | [d1, d2, d3, d4, d5] => { results := [.lit (.bool false)], args := [d1, d2, d3, d4, d5] }
  | _ => none }
def WalCrashWrongFalsely : Prop := walCrashRow.holds Try.pinned (OpenSpec.ofChange walCrashWrong)

/-- 'solventlaw18.WalMarks': WHATEVER THE INPUT: true; the input reads as it did. -/
def walMarksSpec : ChangeSpec := { name := "walMarks", fn := fun _ => fun
  | [d1, d2, d3, d4] => { results := [.lit (.bool true)], args := [d1, d2, d3, d4] }
  | _ => none }
def walMarksRow : OpenClaim := { program := "ytbegomjbakidmaa", sum := "8617aa593298519a4bfeb275b01813c1a7425f2d92fcd233078daf3c6eeeddab", func := "solvent/solventlaw18.WalMarks", spec := "walMarks", unfollowed := true, recurses := true, apart := false }
def WalMarksSaid : Prop := walMarksRow.holds Try.pinned (OpenSpec.ofChange walMarksSpec)

/-- ITS FALSE NEIGHBOUR: 'it returns false'. Refute it at one input. -/
def walMarksWrong : ChangeSpec := { name := "walMarks", fn := fun _ => fun
  | [d1, d2, d3, d4] => { results := [.lit (.bool false)], args := [d1, d2, d3, d4] }
  | _ => none }
def WalMarksWrongFalsely : Prop := walMarksRow.holds Try.pinned (OpenSpec.ofChange walMarksWrong)

/- THE SECOND FORM. 'bulk': how many values and letters a reading holds, each counted each time it is reached (what is shared counts as often as it is met; a slice's spare places count too). A statement '..UptoSaid' is the law's where the arguments, and the package variables that the reading takes, are together of bulk at most 1048576: NARROWER than '..Said'. Prove '..Said' where nothing that the law and all that it calls make is longer than what came in: it says more and counts as full. Else prove '..UptoSaid'. A law counts once. -/
mutual
def uptoBulk {H : Type} : DataW H → Nat
  | .lit (.string bytes) => bytes.length + 1
  | .lit _ => 1
  | .nil => 1
  | .ptr d => uptoBulk d + 1
  | .slice elems spare => uptoBulkAll elems + uptoBulkAll spare + 1
  | .agg parts => uptoBulkAll parts + 1
  | .iface _ d => uptoBulk d + 1
  | .map entries => uptoBulkEntries entries + 1
  | .held _ => 1
def uptoBulkAll {H : Type} : List (DataW H) → Nat
  | [] => 0
  | d :: r => uptoBulk d + uptoBulkAll r
def uptoBulkEntries {H : Type} : List (Lit × DataW H) → Nat
  | [] => 0
  | x :: r => uptoBulkEntry x + uptoBulkEntries r
def uptoBulkEntry {H : Type} : Lit × DataW H → Nat
  | (.string bytes, d) => bytes.length + uptoBulk d + 1
  | (_, d) => uptoBulk d + 1
 end
def uptoSmall : (H : Type) → List (DataW H) → Bool := fun _ ds => decide (uptoBulkAll ds ≤ 1048576)
def OpenSpec.upto (s : _root_.Go.ChangeSpec) : _root_.Go.OpenSpec := { _root_.Go.OpenSpec.ofChange s with cond := some uptoSmall }

/-- 'solventlaw18.WalReads', WHERE WHAT IT READS IS OF BULK AT MOST 1048576: true; the input reads as it did. -/
def walReadsUptoRow : OpenClaim := { program := "ytbegomjbakidmaa", sum := "8617aa593298519a4bfeb275b01813c1a7425f2d92fcd233078daf3c6eeeddab", func := "solvent/solventlaw18.WalReads", spec := "walReads", unfollowed := true, recurses := true, apart := false, narrowed := true }
def WalReadsUptoSaid : Prop := walReadsUptoRow.holds Try.pinned (OpenSpec.upto walReadsSpec)

/-- 'solventlaw18.WalRestarts', WHERE WHAT IT READS IS OF BULK AT MOST 1048576: true; the input reads as it did. -/
def walRestartsUptoRow : OpenClaim := { program := "ytbegomjbakidmaa", sum := "8617aa593298519a4bfeb275b01813c1a7425f2d92fcd233078daf3c6eeeddab", func := "solvent/solventlaw18.WalRestarts", spec := "walRestarts", unfollowed := true, recurses := true, apart := false, narrowed := true }
def WalRestartsUptoSaid : Prop := walRestartsUptoRow.holds Try.pinned (OpenSpec.upto walRestartsSpec)

/-- 'solventlaw18.WalSeparate', WHERE WHAT IT READS IS OF BULK AT MOST 1048576: true; the input reads as it did. -/
def walSeparateUptoRow : OpenClaim := { program := "ytbegomjbakidmaa", sum := "8617aa593298519a4bfeb275b01813c1a7425f2d92fcd233078daf3c6eeeddab", func := "solvent/solventlaw18.WalSeparate", spec := "walSeparate", unfollowed := true, recurses := true, apart := false, narrowed := true }
def WalSeparateUptoSaid : Prop := walSeparateUptoRow.holds Try.pinned (OpenSpec.upto walSeparateSpec)

/-- 'solventlaw18.WalChains', WHERE WHAT IT READS IS OF BULK AT MOST 1048576: true; the input reads as it did. -/
def walChainsUptoRow : OpenClaim := { program := "ytbegomjbakidmaa", sum := "8617aa593298519a4bfeb275b01813c1a7425f2d92fcd233078daf3c6eeeddab", func := "solvent/solventlaw18.WalChains", spec := "walChains", unfollowed := true, recurses := true, apart := false, narrowed := true }
def WalChainsUptoSaid : Prop := walChainsUptoRow.holds Try.pinned (OpenSpec.upto walChainsSpec)

/-- 'solventlaw18.WalDamage', WHERE WHAT IT READS IS OF BULK AT MOST 1048576: true; the input reads as it did. -/
def walDamageUptoRow : OpenClaim := { program := "ytbegomjbakidmaa", sum := "8617aa593298519a4bfeb275b01813c1a7425f2d92fcd233078daf3c6eeeddab", func := "solvent/solventlaw18.WalDamage", spec := "walDamage", unfollowed := true, recurses := true, apart := false, narrowed := true }
def WalDamageUptoSaid : Prop := walDamageUptoRow.holds Try.pinned (OpenSpec.upto walDamageSpec)

/-- 'solventlaw18.WalCrash', WHERE WHAT IT READS IS OF BULK AT MOST 1048576: true; the input reads as it did. -/
def walCrashUptoRow : OpenClaim := { program := "ytbegomjbakidmaa", sum := "8617aa593298519a4bfeb275b01813c1a7425f2d92fcd233078daf3c6eeeddab", func := "solvent/solventlaw18.WalCrash", spec := "walCrash", unfollowed := true, recurses := true, apart := false, narrowed := true }
def WalCrashUptoSaid : Prop := walCrashUptoRow.holds Try.pinned (OpenSpec.upto walCrashSpec)

/-- 'solventlaw18.WalMarks', WHERE WHAT IT READS IS OF BULK AT MOST 1048576: true; the input reads as it did. -/
def walMarksUptoRow : OpenClaim := { program := "ytbegomjbakidmaa", sum := "8617aa593298519a4bfeb275b01813c1a7425f2d92fcd233078daf3c6eeeddab", func := "solvent/solventlaw18.WalMarks", spec := "walMarks", unfollowed := true, recurses := true, apart := false, narrowed := true }
def WalMarksUptoSaid : Prop := walMarksUptoRow.holds Try.pinned (OpenSpec.upto walMarksSpec)

end Rows
end Go.Proofs.Ytbegomjbakidmaa
