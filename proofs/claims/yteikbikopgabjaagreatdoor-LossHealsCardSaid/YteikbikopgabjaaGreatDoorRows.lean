/-
  NARROWER THAN 'FOR EVERY INPUT', by the rows' own cells (each row's printed sentence says how): LossReportMatchesSpec: laid · LossUnrecoverableMatchesSpec: laid · LossNothingIsLost: laid · LossCountsReferences: laid · LossMatchMatchesSpec: laid · LossHeals: laid.
  DERIVED. THE GIVEN ROWS OF THIS SEAT. 6 by the template 'for every input the law returns true; each argument reads behind the call as it read before'; 0 by the template 'total and deterministic' (their statements: YteikbikopgabjaaGreatDoorTotals.lean).
  GIVEN WITH THE SEED: the statements are not yours to turn. If you find one false, say at which input.
  Laid BY PROGRAM, IN A SANDBOX (cutbox-rows.mjs): the forced cells as the released guide's own fill.sh prints them over the translation 31df3a7d0b4fe6c2… (all of the seat's roots in one cut). By AI agents, Wed Nov 11 2026. No macro, syntax, notation, axiom, sorry.
-/
import Derived.Test.YteikbikopgabjaaGreatDoorChecked
import GoSem.Claim
import GoSem.ClaimJoined
import GoSem.ClaimMapViews
import Derived.JoinedTies
import Derived.KernelRfl
namespace Go.Proofs.YteikbikopgabjaaGreatDoor
/- THE CELL 'sum', in the pinned program and in every row, IS THE sha256 OF THE DUMP (.gsa) THAT YteikbikopgabjaaGreatDoorProg.lean LOADS. Nothing in Lean hashes anything: it is a label: what it is worth is what the hold of that sum in a sandbox is worth. -/
noncomputable def Tryz.pinned : Pinned := { name := "yteikbikopgabjaagreatdoor", sum := "31df3a7d0b4fe6c2b1d9ca0b11daa4de52b32069701ed2067ef78c07940f32c0", checked := Tryz.checked }
namespace Rows
def none {H : Type} : Left H := { results := [], args := [] }

/- WHAT THE LISTED PACKAGE-LEVEL VARIABLES READ AS WHEN THE CALL BEGINS. Each datum BY PROGRAM (the guide's laid-datum.mjs) off the statement by which the dump's own 'gosem.cut.vars' lays the variable. In a bare row this is a premise. The card (YteikbikopgabjaaGreatDoorCards.lean) ties it to the program's text. -/
def laid_solvent_solventref02_constants {H : Type} : DataW H := .agg [.lit (.int .u32 1116352408), .lit (.int .u32 1899447441), .lit (.int .u32 3049323471), .lit (.int .u32 3921009573), .lit (.int .u32 961987163), .lit (.int .u32 1508970993), .lit (.int .u32 2453635748), .lit (.int .u32 2870763221), .lit (.int .u32 3624381080), .lit (.int .u32 310598401), .lit (.int .u32 607225278), .lit (.int .u32 1426881987), .lit (.int .u32 1925078388), .lit (.int .u32 2162078206), .lit (.int .u32 2614888103), .lit (.int .u32 3248222580), .lit (.int .u32 3835390401), .lit (.int .u32 4022224774), .lit (.int .u32 264347078), .lit (.int .u32 604807628), .lit (.int .u32 770255983), .lit (.int .u32 1249150122), .lit (.int .u32 1555081692), .lit (.int .u32 1996064986), .lit (.int .u32 2554220882), .lit (.int .u32 2821834349), .lit (.int .u32 2952996808), .lit (.int .u32 3210313671), .lit (.int .u32 3336571891), .lit (.int .u32 3584528711), .lit (.int .u32 113926993), .lit (.int .u32 338241895), .lit (.int .u32 666307205), .lit (.int .u32 773529912), .lit (.int .u32 1294757372), .lit (.int .u32 1396182291), .lit (.int .u32 1695183700), .lit (.int .u32 1986661051), .lit (.int .u32 2177026350), .lit (.int .u32 2456956037), .lit (.int .u32 2730485921), .lit (.int .u32 2820302411), .lit (.int .u32 3259730800), .lit (.int .u32 3345764771), .lit (.int .u32 3516065817), .lit (.int .u32 3600352804), .lit (.int .u32 4094571909), .lit (.int .u32 275423344), .lit (.int .u32 430227734), .lit (.int .u32 506948616), .lit (.int .u32 659060556), .lit (.int .u32 883997877), .lit (.int .u32 958139571), .lit (.int .u32 1322822218), .lit (.int .u32 1537002063), .lit (.int .u32 1747873779), .lit (.int .u32 1955562222), .lit (.int .u32 2024104815), .lit (.int .u32 2227730452), .lit (.int .u32 2361852424), .lit (.int .u32 2428436474), .lit (.int .u32 2756734187), .lit (.int .u32 3204031479), .lit (.int .u32 3329325298)]
def laid_solvent_field_fields {H : Type} : DataW H := .agg [.agg [.lit (.int .i64 8), .lit (.int .i64 285)], .agg [.lit (.int .i64 16), .lit (.int .i64 69643)]]
def laid_solvent_digest_constants {H : Type} : DataW H := .agg [.lit (.int .u32 1116352408), .lit (.int .u32 1899447441), .lit (.int .u32 3049323471), .lit (.int .u32 3921009573), .lit (.int .u32 961987163), .lit (.int .u32 1508970993), .lit (.int .u32 2453635748), .lit (.int .u32 2870763221), .lit (.int .u32 3624381080), .lit (.int .u32 310598401), .lit (.int .u32 607225278), .lit (.int .u32 1426881987), .lit (.int .u32 1925078388), .lit (.int .u32 2162078206), .lit (.int .u32 2614888103), .lit (.int .u32 3248222580), .lit (.int .u32 3835390401), .lit (.int .u32 4022224774), .lit (.int .u32 264347078), .lit (.int .u32 604807628), .lit (.int .u32 770255983), .lit (.int .u32 1249150122), .lit (.int .u32 1555081692), .lit (.int .u32 1996064986), .lit (.int .u32 2554220882), .lit (.int .u32 2821834349), .lit (.int .u32 2952996808), .lit (.int .u32 3210313671), .lit (.int .u32 3336571891), .lit (.int .u32 3584528711), .lit (.int .u32 113926993), .lit (.int .u32 338241895), .lit (.int .u32 666307205), .lit (.int .u32 773529912), .lit (.int .u32 1294757372), .lit (.int .u32 1396182291), .lit (.int .u32 1695183700), .lit (.int .u32 1986661051), .lit (.int .u32 2177026350), .lit (.int .u32 2456956037), .lit (.int .u32 2730485921), .lit (.int .u32 2820302411), .lit (.int .u32 3259730800), .lit (.int .u32 3345764771), .lit (.int .u32 3516065817), .lit (.int .u32 3600352804), .lit (.int .u32 4094571909), .lit (.int .u32 275423344), .lit (.int .u32 430227734), .lit (.int .u32 506948616), .lit (.int .u32 659060556), .lit (.int .u32 883997877), .lit (.int .u32 958139571), .lit (.int .u32 1322822218), .lit (.int .u32 1537002063), .lit (.int .u32 1747873779), .lit (.int .u32 1955562222), .lit (.int .u32 2024104815), .lit (.int .u32 2227730452), .lit (.int .u32 2361852424), .lit (.int .u32 2428436474), .lit (.int .u32 2756734187), .lit (.int .u32 3204031479), .lit (.int .u32 3329325298)]
def laid_solvent_digest_start {H : Type} : DataW H := .agg [.lit (.int .u32 1779033703), .lit (.int .u32 3144134277), .lit (.int .u32 1013904242), .lit (.int .u32 2773480762), .lit (.int .u32 1359893119), .lit (.int .u32 2600822924), .lit (.int .u32 528734635), .lit (.int .u32 1541459225)]

/-- 'solventlaw41.LossReportMatchesSpec': WHATEVER THE INPUT: true; the input reads as it did. -/
def lossReportMatchesSpecSpec : ChangeSpec := { name := "lossReportMatchesSpec", fn := fun _ => fun
  | [d] => { results := [.lit (.bool true)], args := [d] }
  | _ => none }
def lossReportMatchesSpecRow : OpenClaim := { program := "yteikbikopgabjaagreatdoor", sum := "31df3a7d0b4fe6c2b1d9ca0b11daa4de52b32069701ed2067ef78c07940f32c0", func := "solvent/solventlaw41.LossReportMatchesSpec", spec := "lossReportMatchesSpec", inPlace := ["slices.overlaps[solvent/api.Chunk]"], unfollowed := true, recurses := true, named := ["solvent/solventref02.constants", "solvent/field.fields"], plainKeys := false, apart := false, laid := [("solvent/solventref02.constants", laid_solvent_solventref02_constants), ("solvent/field.fields", laid_solvent_field_fields)] }
def LossReportMatchesSpecSaid : Prop := lossReportMatchesSpecRow.holds Tryz.pinned (OpenSpec.ofChange lossReportMatchesSpecSpec)

/-- ITS FALSE NEIGHBOUR: 'it returns false'. Refute it at one input. -/
def lossReportMatchesSpecWrong : ChangeSpec := { name := "lossReportMatchesSpec", fn := fun _ => fun
  | [d] => { results := [.lit (.bool false)], args := [d] }
  | _ => none }
def LossReportMatchesSpecWrongFalsely : Prop := lossReportMatchesSpecRow.holds Tryz.pinned (OpenSpec.ofChange lossReportMatchesSpecWrong)

/-- 'solventlaw41.LossUnrecoverableMatchesSpec': WHATEVER THE INPUT: true; the input reads as it did. -/
def lossUnrecoverableMatchesSpecSpec : ChangeSpec := { name := "lossUnrecoverableMatchesSpec", fn := fun _ => fun
  | [d1, d2, d3] => { results := [.lit (.bool true)], args := [d1, d2, d3] }
  | _ => none }
def lossUnrecoverableMatchesSpecRow : OpenClaim := { program := "yteikbikopgabjaagreatdoor", sum := "31df3a7d0b4fe6c2b1d9ca0b11daa4de52b32069701ed2067ef78c07940f32c0", func := "solvent/solventlaw41.LossUnrecoverableMatchesSpec", spec := "lossUnrecoverableMatchesSpec", inPlace := ["slices.overlaps[solvent/api.Chunk]"], unfollowed := true, recurses := true, named := ["solvent/solventref02.constants", "solvent/field.fields"], plainKeys := false, apart := false, laid := [("solvent/solventref02.constants", laid_solvent_solventref02_constants), ("solvent/field.fields", laid_solvent_field_fields)] }
def LossUnrecoverableMatchesSpecSaid : Prop := lossUnrecoverableMatchesSpecRow.holds Tryz.pinned (OpenSpec.ofChange lossUnrecoverableMatchesSpecSpec)

/-- ITS FALSE NEIGHBOUR: 'it returns false'. Refute it at one input. -/
def lossUnrecoverableMatchesSpecWrong : ChangeSpec := { name := "lossUnrecoverableMatchesSpec", fn := fun _ => fun
  | [d1, d2, d3] => { results := [.lit (.bool false)], args := [d1, d2, d3] }
  | _ => none }
def LossUnrecoverableMatchesSpecWrongFalsely : Prop := lossUnrecoverableMatchesSpecRow.holds Tryz.pinned (OpenSpec.ofChange lossUnrecoverableMatchesSpecWrong)

/-- 'solventlaw41.LossNothingIsLost': WHATEVER THE INPUT: true; the input reads as it did. -/
def lossNothingIsLostSpec : ChangeSpec := { name := "lossNothingIsLost", fn := fun _ => fun
  | [d] => { results := [.lit (.bool true)], args := [d] }
  | _ => none }
def lossNothingIsLostRow : OpenClaim := { program := "yteikbikopgabjaagreatdoor", sum := "31df3a7d0b4fe6c2b1d9ca0b11daa4de52b32069701ed2067ef78c07940f32c0", func := "solvent/solventlaw41.LossNothingIsLost", spec := "lossNothingIsLost", inPlace := ["slices.overlaps[solvent/api.Chunk]"], unfollowed := true, recurses := true, named := ["solvent/solventref02.constants", "solvent/field.fields"], plainKeys := false, apart := false, laid := [("solvent/solventref02.constants", laid_solvent_solventref02_constants), ("solvent/field.fields", laid_solvent_field_fields)] }
def LossNothingIsLostSaid : Prop := lossNothingIsLostRow.holds Tryz.pinned (OpenSpec.ofChange lossNothingIsLostSpec)

/-- ITS FALSE NEIGHBOUR: 'it returns false'. Refute it at one input. -/
def lossNothingIsLostWrong : ChangeSpec := { name := "lossNothingIsLost", fn := fun _ => fun
  | [d] => { results := [.lit (.bool false)], args := [d] }
  | _ => none }
def LossNothingIsLostWrongFalsely : Prop := lossNothingIsLostRow.holds Tryz.pinned (OpenSpec.ofChange lossNothingIsLostWrong)

/-- 'solventlaw41.LossCountsReferences': WHATEVER THE INPUT: true; the input reads as it did. -/
def lossCountsReferencesSpec : ChangeSpec := { name := "lossCountsReferences", fn := fun _ => fun
  | [d] => { results := [.lit (.bool true)], args := [d] }
  | _ => none }
def lossCountsReferencesRow : OpenClaim := { program := "yteikbikopgabjaagreatdoor", sum := "31df3a7d0b4fe6c2b1d9ca0b11daa4de52b32069701ed2067ef78c07940f32c0", func := "solvent/solventlaw41.LossCountsReferences", spec := "lossCountsReferences", inPlace := ["slices.overlaps[solvent/api.Chunk]"], unfollowed := true, recurses := true, named := ["solvent/solventref02.constants", "solvent/field.fields"], plainKeys := false, apart := false, laid := [("solvent/solventref02.constants", laid_solvent_solventref02_constants), ("solvent/field.fields", laid_solvent_field_fields)] }
def LossCountsReferencesSaid : Prop := lossCountsReferencesRow.holds Tryz.pinned (OpenSpec.ofChange lossCountsReferencesSpec)

/-- ITS FALSE NEIGHBOUR: 'it returns false'. Refute it at one input. -/
def lossCountsReferencesWrong : ChangeSpec := { name := "lossCountsReferences", fn := fun _ => fun
  | [d] => { results := [.lit (.bool false)], args := [d] }
  | _ => none }
def LossCountsReferencesWrongFalsely : Prop := lossCountsReferencesRow.holds Tryz.pinned (OpenSpec.ofChange lossCountsReferencesWrong)

/-- 'solventlaw41.LossMatchMatchesSpec': WHATEVER THE INPUT: true; the input reads as it did. -/
def lossMatchMatchesSpecSpec : ChangeSpec := { name := "lossMatchMatchesSpec", fn := fun _ => fun
  | [d1, d2] => { results := [.lit (.bool true)], args := [d1, d2] }
  | _ => none }
def lossMatchMatchesSpecRow : OpenClaim := { program := "yteikbikopgabjaagreatdoor", sum := "31df3a7d0b4fe6c2b1d9ca0b11daa4de52b32069701ed2067ef78c07940f32c0", func := "solvent/solventlaw41.LossMatchMatchesSpec", spec := "lossMatchMatchesSpec", inPlace := ["slices.overlaps[solvent/api.Chunk]"], unfollowed := true, recurses := true, named := ["solvent/solventref02.constants", "solvent/field.fields", "solvent/digest.start", "solvent/digest.constants"], plainKeys := false, apart := false, laid := [("solvent/solventref02.constants", laid_solvent_solventref02_constants), ("solvent/digest.constants", laid_solvent_digest_constants), ("solvent/digest.start", laid_solvent_digest_start), ("solvent/field.fields", laid_solvent_field_fields)] }
def LossMatchMatchesSpecSaid : Prop := lossMatchMatchesSpecRow.holds Tryz.pinned (OpenSpec.ofChange lossMatchMatchesSpecSpec)

/-- ITS FALSE NEIGHBOUR: 'it returns false'. Refute it at one input. -/
def lossMatchMatchesSpecWrong : ChangeSpec := { name := "lossMatchMatchesSpec", fn := fun _ => fun
  | [d1, d2] => { results := [.lit (.bool false)], args := [d1, d2] }
  | _ => none }
def LossMatchMatchesSpecWrongFalsely : Prop := lossMatchMatchesSpecRow.holds Tryz.pinned (OpenSpec.ofChange lossMatchMatchesSpecWrong)

/-- 'solventlaw41.LossHeals': WHATEVER THE INPUT: true; the input reads as it did. -/
def lossHealsSpec : ChangeSpec := { name := "lossHeals", fn := fun _ => fun
  | [d1, d2] => { results := [.lit (.bool true)], args := [d1, d2] }
  | _ => none }
def lossHealsRow : OpenClaim := { program := "yteikbikopgabjaagreatdoor", sum := "31df3a7d0b4fe6c2b1d9ca0b11daa4de52b32069701ed2067ef78c07940f32c0", func := "solvent/solventlaw41.LossHeals", spec := "lossHeals", inPlace := ["slices.overlaps[solvent/api.Chunk]"], unfollowed := true, recurses := true, named := ["solvent/solventref02.constants", "solvent/field.fields", "solvent/digest.start", "solvent/digest.constants"], plainKeys := false, apart := false, laid := [("solvent/solventref02.constants", laid_solvent_solventref02_constants), ("solvent/digest.constants", laid_solvent_digest_constants), ("solvent/digest.start", laid_solvent_digest_start), ("solvent/field.fields", laid_solvent_field_fields)] }
def LossHealsSaid : Prop := lossHealsRow.holds Tryz.pinned (OpenSpec.ofChange lossHealsSpec)

/-- ITS FALSE NEIGHBOUR: 'it returns false'. Refute it at one input. -/
def lossHealsWrong : ChangeSpec := { name := "lossHeals", fn := fun _ => fun
  | [d1, d2] => { results := [.lit (.bool false)], args := [d1, d2] }
  | _ => none }
def LossHealsWrongFalsely : Prop := lossHealsRow.holds Tryz.pinned (OpenSpec.ofChange lossHealsWrong)

/- THE SECOND FORM. 'bulk': how many values and letters a reading holds, each counted each time it is reached (what is shared counts as often as it is met; a slice's spare places count too). A statement '..UptoSaid' is the law's where the arguments, and the package variables that the reading takes, are together of bulk at most 1048576: NARROWER than '..Said'. Prove '..Said' where nothing that the law and all that it calls make is longer than what came in: it says more and counts as full. Else prove '..UptoSaid'. A law counts once. -/
mutual
def uptoBulk {H : Type} : DataW H → Nat
  | .lit (.string bytes) => bytes.length + 1
  | .lit _ => 1
  | .nil => 1
  | .ptr d => uptoBulk d + 1
  | .slice elems spare => uptoBulkAll elems + uptoBulkAll spare + 1
  | .agg parts => uptoBulkAll parts + 1
  | .iface _ d => uptoBulk d + 1
  | .map entries => uptoBulkEntries entries + 1
  | .held _ => 1
def uptoBulkAll {H : Type} : List (DataW H) → Nat
  | [] => 0
  | d :: r => uptoBulk d + uptoBulkAll r
def uptoBulkEntries {H : Type} : List (Lit × DataW H) → Nat
  | [] => 0
  | x :: r => uptoBulkEntry x + uptoBulkEntries r
def uptoBulkEntry {H : Type} : Lit × DataW H → Nat
  | (.string bytes, d) => bytes.length + uptoBulk d + 1
  | (_, d) => uptoBulk d + 1
 end
def uptoSmall : (H : Type) → List (DataW H) → Bool := fun _ ds => decide (uptoBulkAll ds ≤ 1048576)
def OpenSpec.upto (s : _root_.Go.ChangeSpec) : _root_.Go.OpenSpec := { _root_.Go.OpenSpec.ofChange s with cond := some uptoSmall }

/-- 'solventlaw41.LossReportMatchesSpec', WHERE WHAT IT READS IS OF BULK AT MOST 1048576: true; the input reads as it did. -/
def lossReportMatchesSpecUptoRow : OpenClaim := { program := "yteikbikopgabjaagreatdoor", sum := "31df3a7d0b4fe6c2b1d9ca0b11daa4de52b32069701ed2067ef78c07940f32c0", func := "solvent/solventlaw41.LossReportMatchesSpec", spec := "lossReportMatchesSpec", inPlace := ["slices.overlaps[solvent/api.Chunk]"], unfollowed := true, recurses := true, named := ["solvent/solventref02.constants", "solvent/field.fields"], plainKeys := false, apart := false, laid := [("solvent/solventref02.constants", laid_solvent_solventref02_constants), ("solvent/field.fields", laid_solvent_field_fields)], narrowed := true }
def LossReportMatchesSpecUptoSaid : Prop := lossReportMatchesSpecUptoRow.holds Tryz.pinned (OpenSpec.upto lossReportMatchesSpecSpec)

/-- 'solventlaw41.LossUnrecoverableMatchesSpec', WHERE WHAT IT READS IS OF BULK AT MOST 1048576: true; the input reads as it did. -/
def lossUnrecoverableMatchesSpecUptoRow : OpenClaim := { program := "yteikbikopgabjaagreatdoor", sum := "31df3a7d0b4fe6c2b1d9ca0b11daa4de52b32069701ed2067ef78c07940f32c0", func := "solvent/solventlaw41.LossUnrecoverableMatchesSpec", spec := "lossUnrecoverableMatchesSpec", inPlace := ["slices.overlaps[solvent/api.Chunk]"], unfollowed := true, recurses := true, named := ["solvent/solventref02.constants", "solvent/field.fields"], plainKeys := false, apart := false, laid := [("solvent/solventref02.constants", laid_solvent_solventref02_constants), ("solvent/field.fields", laid_solvent_field_fields)], narrowed := true }
def LossUnrecoverableMatchesSpecUptoSaid : Prop := lossUnrecoverableMatchesSpecUptoRow.holds Tryz.pinned (OpenSpec.upto lossUnrecoverableMatchesSpecSpec)

/-- 'solventlaw41.LossNothingIsLost', WHERE WHAT IT READS IS OF BULK AT MOST 1048576: true; the input reads as it did. -/
def lossNothingIsLostUptoRow : OpenClaim := { program := "yteikbikopgabjaagreatdoor", sum := "31df3a7d0b4fe6c2b1d9ca0b11daa4de52b32069701ed2067ef78c07940f32c0", func := "solvent/solventlaw41.LossNothingIsLost", spec := "lossNothingIsLost", inPlace := ["slices.overlaps[solvent/api.Chunk]"], unfollowed := true, recurses := true, named := ["solvent/solventref02.constants", "solvent/field.fields"], plainKeys := false, apart := false, laid := [("solvent/solventref02.constants", laid_solvent_solventref02_constants), ("solvent/field.fields", laid_solvent_field_fields)], narrowed := true }
def LossNothingIsLostUptoSaid : Prop := lossNothingIsLostUptoRow.holds Tryz.pinned (OpenSpec.upto lossNothingIsLostSpec)

/-- 'solventlaw41.LossCountsReferences', WHERE WHAT IT READS IS OF BULK AT MOST 1048576: true; the input reads as it did. -/
def lossCountsReferencesUptoRow : OpenClaim := { program := "yteikbikopgabjaagreatdoor", sum := "31df3a7d0b4fe6c2b1d9ca0b11daa4de52b32069701ed2067ef78c07940f32c0", func := "solvent/solventlaw41.LossCountsReferences", spec := "lossCountsReferences", inPlace := ["slices.overlaps[solvent/api.Chunk]"], unfollowed := true, recurses := true, named := ["solvent/solventref02.constants", "solvent/field.fields"], plainKeys := false, apart := false, laid := [("solvent/solventref02.constants", laid_solvent_solventref02_constants), ("solvent/field.fields", laid_solvent_field_fields)], narrowed := true }
def LossCountsReferencesUptoSaid : Prop := lossCountsReferencesUptoRow.holds Tryz.pinned (OpenSpec.upto lossCountsReferencesSpec)

/-- 'solventlaw41.LossMatchMatchesSpec', WHERE WHAT IT READS IS OF BULK AT MOST 1048576: true; the input reads as it did. -/
def lossMatchMatchesSpecUptoRow : OpenClaim := { program := "yteikbikopgabjaagreatdoor", sum := "31df3a7d0b4fe6c2b1d9ca0b11daa4de52b32069701ed2067ef78c07940f32c0", func := "solvent/solventlaw41.LossMatchMatchesSpec", spec := "lossMatchMatchesSpec", inPlace := ["slices.overlaps[solvent/api.Chunk]"], unfollowed := true, recurses := true, named := ["solvent/solventref02.constants", "solvent/field.fields", "solvent/digest.start", "solvent/digest.constants"], plainKeys := false, apart := false, laid := [("solvent/solventref02.constants", laid_solvent_solventref02_constants), ("solvent/digest.constants", laid_solvent_digest_constants), ("solvent/digest.start", laid_solvent_digest_start), ("solvent/field.fields", laid_solvent_field_fields)], narrowed := true }
def LossMatchMatchesSpecUptoSaid : Prop := lossMatchMatchesSpecUptoRow.holds Tryz.pinned (OpenSpec.upto lossMatchMatchesSpecSpec)

/-- 'solventlaw41.LossHeals', WHERE WHAT IT READS IS OF BULK AT MOST 1048576: true; the input reads as it did. -/
def lossHealsUptoRow : OpenClaim := { program := "yteikbikopgabjaagreatdoor", sum := "31df3a7d0b4fe6c2b1d9ca0b11daa4de52b32069701ed2067ef78c07940f32c0", func := "solvent/solventlaw41.LossHeals", spec := "lossHeals", inPlace := ["slices.overlaps[solvent/api.Chunk]"], unfollowed := true, recurses := true, named := ["solvent/solventref02.constants", "solvent/field.fields", "solvent/digest.start", "solvent/digest.constants"], plainKeys := false, apart := false, laid := [("solvent/solventref02.constants", laid_solvent_solventref02_constants), ("solvent/digest.constants", laid_solvent_digest_constants), ("solvent/digest.start", laid_solvent_digest_start), ("solvent/field.fields", laid_solvent_field_fields)], narrowed := true }
def LossHealsUptoSaid : Prop := lossHealsUptoRow.holds Tryz.pinned (OpenSpec.upto lossHealsSpec)

end Rows
end Go.Proofs.YteikbikopgabjaaGreatDoor
