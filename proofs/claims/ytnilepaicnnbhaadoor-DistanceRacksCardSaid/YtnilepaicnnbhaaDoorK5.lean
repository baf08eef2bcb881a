/- DistanceRacks, as a tied card: whatever the input, the law answers true and leaves its arguments alone; the table of package field is what the program's text lays (tied; over a pruned copy of the project). -/
import Derived.Test.YtnilepaicnnbhaaDoorKv
namespace Go.Proofs.YtnilepaicnnbhaaDoor
open Go.RowKit Go.GF Go.Sl Go.Shelf Go.ChangeMaps Go.ChangeShapes Go.WideShapes Go.ChangeAt
set_option maxRecDepth 100000 in
theorem distanceRacks_lifted (os : Os) (started : os.Started) (H : Type) (enc : TypeId × Value → H) :
    ReturnsInHanded {} Tryd.checked os 7 .any (fun w args => (Rows.distanceRacksSpec.pre enc Tryd.prog Tryd.f7 [] false w args ∧ laidMetH Tryd.prog tabLaid w) ∧ sizedMet enc Tryd.prog Tryd.f7 (OpenSpec.ofChange Rows.distanceRacksSpec) false w args) (Rows.distanceRacksSpec.post enc Tryd.prog Tryd.f7 false true false false) := by
  refine returnsInHanded_of_change_and (C := Tryd.checked) (X := fun w _ => laidMetH Tryd.prog tabLaid w) (fun _ _ _ hh h => h.of_heap hh) law_own started (by kernel_rfl) Tryd.func7
    (ChangeSpec.witness_shaped (enc := enc) (C := Tryd.checked) (os := os) (X := fun w _ => laidMetH Tryd.prog tabLaid w) false (World.doorLaid Tryd.prog 16 os) #[.agg (codeV ByteArray.empty 0 0 (.slice none 0 0) 0), .slice none 0 0, .int .i64 0, .int .i64 0, .int .i64 0] 8 rfl (World.shaped_of_RefB (by kernel_rfl) (by kernel_rfl)) (by kernel_rfl) (by kernel_rfl) (by kernel_rfl) (door_met os _)) ?_
  intro W base args ds gs before hval0 hW _ _ hL _
  have hTW := tabF_of_laid hL
  have hval : ∀ (j : Nat) t v, Tryd.f7.params[j]? = some t → args[j]? = some v → Value.okWide Tryd.prog W .any base t v := hval0
  have hW' := hW
  obtain ⟨p, q, hA0, hV, rfl, _, _⟩ := hW
  have hA : DataW.TrodAll enc Tryd.prog W 0 (fun _ => true) true Tryd.f7.params.toList args.toList ds p := hA0
  rw [Tryd.params7] at hA hval
  obtain ⟨w0, vs0, d0, ds0, p0, q0, hargs, rfl, rfl, h0, r0⟩ := trodAll_cons hA
  obtain ⟨w1, vs1, d1, ds1, p1, q1, rfl, rfl, rfl, h1, r1⟩ := trodAll_cons r0
  obtain ⟨w2, vs2, d2, ds2, p2, q2, rfl, rfl, rfl, h2, r2⟩ := trodAll_cons r1
  obtain ⟨w3, vs3, d3, ds3, p3, q3, rfl, rfl, rfl, h3, r3⟩ := trodAll_cons r2
  obtain ⟨w4, vs4, d4, ds4, p4, q4, rfl, rfl, rfl, h4, r4⟩ := trodAll_cons r3
  obtain ⟨rfl, rfl, rfl⟩ := trodAll_nil r4
  obtain rfl : args = #[w0, w1, w2, w3, w4] := by cases args; simp_all
  obtain ⟨rfl, rfl⟩ := trodVars_none hV
  obtain ⟨cs0, rfl, _⟩ := okWide_struct Tryd.underlying24 (hval 0 _ w0 rfl rfl)
  obtain ⟨s0, f0, k0, pv0, dom0, L0, e0, a0⟩ := rd_code (trod_rd h0)
  obtain rfl : cs0 = codeV s0 f0 k0 pv0 dom0 := by apply Array.ext'; simpa [Value.cells] using e0
  obtain ⟨v1, l1, e1, g1, m1⟩ := rd_rowI (trod_rd h1)
  obtain ⟨x1, y1, z1, rfl⟩ := okWide_slice Tryd.underlying26 (hval 1 _ w1 rfl rfl)
  obtain rfl : .slice x1 y1 z1 = v1 := by simpa [Value.cells] using e1
  obtain ⟨b2, rfl, rfl, rfl, wf2⟩ := open_int Tryd.underlying3 (hval 2 3 w2 rfl rfl) h2
  obtain ⟨b3, rfl, rfl, rfl, wf3⟩ := open_int Tryd.underlying3 (hval 3 3 w3 rfl rfl) h3
  obtain ⟨b4, rfl, rfl, rfl, wf4⟩ := open_int Tryd.underlying3 (hval 4 3 w4 rfl rfl) h4
  refine (rackslaw_any s0 f0 k0 pv0 dom0 L0 _ l1 b2 b3 b4 W hTW a0 g1).mono fun e W' ⟨he, hg⟩ => ?_
  subst he
  exact ⟨_, rfl, law_post (by kernel_rfl) rfl (of_decide_eq_true (by kernel_rfl)) rfl hW' hg⟩

theorem distanceRacks_holds : Rows.DistanceRacksSaid :=
  OpenClaim.holds_of_wide 7 Tryd.f7 rfl rfl rfl rfl rfl rfl rfl ⟨rfl, rfl, rfl, rfl, rfl⟩ rfl rfl rfl rfl rfl (by kernel_rfl) Tryd.func7 (by kernel_rfl)
    (of_decide_eq_true (by kernel_rfl)) (by unfold Func.isWrapper; first | (rw [if_pos (by decide +kernel)]; kernel_rfl) | (rw [if_neg (by decide +kernel)]; exact ⟨rfl, rfl⟩))
    (fun os started H enc _ => distanceRacks_lifted os started H enc)

/-- The tied card. -/
theorem distanceRacksCard_holds : Rows.DistanceRacksCardSaid :=
  Claim7.holds_tied_plain_at .later [] [.data] true (true, "48887f1d488b72129d32517ec203725845678b4f7273a8f9a9509d6ce83a31e5") false
    distanceRacks_holds (fun _ h => by cases h) (by kernel_rfl) (fun _ h => by cases h) distanceRacks_row_tie rfl ⟨rfl, rfl⟩ (by kernel_rfl) rfl
    (fun f fn hf hfn => by
      obtain rfl : f = 7 := Option.some.inj ((show Tryd.prog.funcNamed "solvent/solventlaw09.DistanceRacks" = some 7 by kernel_rfl).symm.trans hf) |>.symm
      obtain rfl : fn = Tryd.f7 := (Option.some.inj (Tryd.func7.symm.trans hfn)).symm
      exact ⟨by kernel_rfl, fun j t ht => by
        rw [Tryd.params7] at ht
        have hm : t ∈ [24, 26, 3, 3, 3] := by simpa using Array.mem_of_getElem? ht
        have hall : ([24, 26, 3, 3, 3].all fun u => !Tryd.prog.wantsStandIn u) = true := by kernel_rfl
        exact (show Tryd.prog.wantsStandIn t = false by simpa using List.all_eq_true.1 hall t hm)⟩)
    (by kernel_rfl)
end Go.Proofs.YtnilepaicnnbhaaDoor
