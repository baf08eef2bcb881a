/- DistanceMatchesSpec, as a tied card: whatever the input, the law answers true and leaves its arguments alone; the table of package field is what the program's text lays (tied; over a pruned copy of the project). -/
import Derived.Test.YtnilepaicnnbhaaGreatDoorFs
namespace Go.Proofs.YtnilepaicnnbhaaGreatDoor
open Go.RowKit Go.GF Go.Sl Go.Shelf Go.ChangeMaps Go.ChangeShapes Go.WideShapes Go.ChangeAt
set_option maxRecDepth 100000 in
theorem distanceMatchesSpec_lifted (os : Os) (started : os.Started) (H : Type) (enc : TypeId × Value → H) :
    ReturnsInHanded {} Tryz.checked os 3 .any (fun w args => (Rows.distanceMatchesSpecSpec.pre enc Tryz.prog Tryz.f3 [] false w args ∧ laidMetH Tryz.prog tabLaid w) ∧ sizedMet enc Tryz.prog Tryz.f3 (OpenSpec.ofChange Rows.distanceMatchesSpecSpec) false w args) (Rows.distanceMatchesSpecSpec.post enc Tryz.prog Tryz.f3 false true false false) := by
  refine returnsInHanded_of_change_and (C := Tryz.checked) (X := fun w _ => laidMetH Tryz.prog tabLaid w) (fun _ _ _ hh h => h.of_heap hh) law_own started (by kernel_rfl) Tryz.func3
    (ChangeSpec.witness_shaped (enc := enc) (C := Tryz.checked) (os := os) (X := fun w _ => laidMetH Tryz.prog tabLaid w) false (World.doorLaid Tryz.prog 16 os) #[.agg (codeV ByteArray.empty 0 0 (.slice none 0 0) 0), .slice none 0 0, .slice none 0 0] 8 rfl (World.shaped_of_RefB (by kernel_rfl) (by kernel_rfl)) (by kernel_rfl) (by kernel_rfl) (by kernel_rfl) (door_met os _)) ?_
  intro W base args ds gs before hval0 hW _ _ hL _
  have hTW := tabF_of_laid hL
  have hval : ∀ (j : Nat) t v, Tryz.f3.params[j]? = some t → args[j]? = some v → Value.okWide Tryz.prog W .any base t v := hval0
  have hW' := hW
  obtain ⟨p, q, hA0, hV, rfl, _, _⟩ := hW
  have hA : DataW.TrodAll enc Tryz.prog W 0 (fun _ => true) true Tryz.f3.params.toList args.toList ds p := hA0
  rw [Tryz.params3] at hA hval
  obtain ⟨w0, vs0, d0, ds0, p0, q0, hargs, rfl, rfl, h0, r0⟩ := trodAll_cons hA
  obtain ⟨w1, vs1, d1, ds1, p1, q1, rfl, rfl, rfl, h1, r1⟩ := trodAll_cons r0
  obtain ⟨w2, vs2, d2, ds2, p2, q2, rfl, rfl, rfl, h2, r2⟩ := trodAll_cons r1
  obtain ⟨rfl, rfl, rfl⟩ := trodAll_nil r2
  obtain rfl : args = #[w0, w1, w2] := by cases args; simp_all
  obtain ⟨rfl, rfl⟩ := trodVars_none hV
  obtain ⟨cs0, rfl, _⟩ := okWide_struct Tryz.underlying24 (hval 0 _ w0 rfl rfl)
  obtain ⟨s0, f0, k0, pv0, dom0, L0, e0, a0⟩ := rd_code (trod_rd h0)
  obtain rfl : cs0 = codeV s0 f0 k0 pv0 dom0 := by apply Array.ext'; simpa [Value.cells] using e0
  obtain ⟨v1, l1, e1, g1⟩ := rd_rowB (trod_rd h1)
  obtain ⟨x1, y1, z1, rfl⟩ := okWide_slice Tryz.underlying25 (hval 1 _ w1 rfl rfl)
  obtain rfl : .slice x1 y1 z1 = v1 := by simpa [Value.cells] using e1
  obtain ⟨v2, l2, e2, g2, m2⟩ := rd_rowI (trod_rd h2)
  obtain ⟨x2, y2, z2, rfl⟩ := okWide_slice Tryz.underlying26 (hval 2 _ w2 rfl rfl)
  obtain rfl : .slice x2 y2 z2 = v2 := by simpa [Value.cells] using e2
  refine (matches_any s0 f0 k0 pv0 dom0 L0 _ l1 _ l2 W hTW a0 g1 g2).mono fun e W' ⟨he, hg⟩ => ?_
  subst he
  exact ⟨_, rfl, law_post (by kernel_rfl) rfl (of_decide_eq_true (by kernel_rfl)) rfl hW' hg⟩

theorem distanceMatchesSpec_holds : Rows.DistanceMatchesSpecSaid :=
  OpenClaim.holds_of_wide 3 Tryz.f3 rfl rfl rfl rfl rfl rfl rfl ⟨rfl, rfl, rfl, rfl, rfl⟩ rfl rfl rfl rfl rfl (by kernel_rfl) Tryz.func3 (by kernel_rfl)
    (of_decide_eq_true (by kernel_rfl)) (by unfold Func.isWrapper; first | (rw [if_pos (by decide +kernel)]; kernel_rfl) | (rw [if_neg (by decide +kernel)]; exact ⟨rfl, rfl⟩))
    (fun os started H enc _ => distanceMatchesSpec_lifted os started H enc)

/-- The tied card. -/
theorem distanceMatchesSpecCard_holds : Rows.DistanceMatchesSpecCardSaid :=
  Claim7.holds_tied_plain_at .later [] [.data] true (true, "1a7094e464635d95c71ce51f17dc6bf7239b1c9296d8b40278c884b8047539df") false
    distanceMatchesSpec_holds (fun _ h => by cases h) (by kernel_rfl) (fun _ h => by cases h) distanceMatchesSpec_row_tie rfl ⟨rfl, rfl⟩ (by kernel_rfl) rfl
    (fun f fn hf hfn => by
      obtain rfl : f = 3 := Option.some.inj ((show Tryz.prog.funcNamed "solvent/solventlaw09.DistanceMatchesSpec" = some 3 by kernel_rfl).symm.trans hf) |>.symm
      obtain rfl : fn = Tryz.f3 := (Option.some.inj (Tryz.func3.symm.trans hfn)).symm
      exact ⟨by kernel_rfl, fun j t ht => by
        rw [Tryz.params3] at ht
        have hm : t ∈ [24, 25, 26] := by simpa using Array.mem_of_getElem? ht
        have hall : ([24, 25, 26].all fun u => !Tryz.prog.wantsStandIn u) = true := by kernel_rfl
        exact (show Tryz.prog.wantsStandIn t = false by simpa using List.all_eq_true.1 hall t hm)⟩)
    (by kernel_rfl)
end Go.Proofs.YtnilepaicnnbhaaGreatDoor
