/- UsageForecastMatchesSpec: for every space that at most 80 operations build, every volume, every snapshot and any at most 80 blocks, Grow, Snap, Clone and Restore return what is specified. Printed by be.py. -/
import Derived.Test.YtmgcgdkndkibgaaGreatBd
import Derived.Test.YtmgcgdkndkibgaaGreatBa
namespace Go.Proofs.YtmgcgdkndkibgaaGreat
open Go.RowKit Go.Vol Go.Sl Go.ChangeMaps Go.ChangeShapes Go.WideShapes Go.ChangeAt

set_option maxRecDepth 20000 in
set_option maxHeartbeats 8000000 in
theorem fore_law (sv : Value) (l : List VOp) (v s : Int) (bv : Value) (bl : List Int) (w : World) (hscr : ScrV w sv l) (hb : IntsAt w bv bl) :
    Calls Tryz.prog 4 #[sv, .int .i64 v, .int .i64 s, bv] w fun e w' => e = .returned (.bool true) ∧ Below w.heap.size w w' := by
  by_cases hl : l.length ≤ 80
  · have HN := Lib.hid (build_both sv l w hscr hl)
    have HWF := Lib.hid (runU_wf SpaceM.WF.new l)
    generalize runU SpaceM.new l = S at HN HWF
    obtain ⟨ba, bc, rfl, hb0⟩ := id hb
    have HI := Lib.hid hb
    clear hscr hl hb hb0
    by_cases hbl : bl.length ≤ 80
    · have hbd : decide ((80 : Int) < (bl.length : Int)) = false := decide_eq_false (by omega)
      go_enter Tryz.func4, Tryz.ntmps4
      go_upto_region 4 with (go_at_call 9; refine HN.out.mono ?_; rintro e w1 ⟨p, va, vc, sa, sc, rfl, h1⟩)
      have hal := (Below.refl w1.heap.size w1).alloc (Nat.le_refl _) (.cells #[.slice va S.vols.length vc, .slice sa S.snaps.length sc] TRS)
      have HS := Lib.hid (And.intro (h1.out.next hal) (heap_alloc_new w1 (.cells #[.slice va S.vols.length vc, .slice sa S.snaps.length sc] TRS)))
      clear h1 hal HN
      generalize w1.alloc (.cells #[.slice va S.vols.length vc, .slice sa S.snaps.length sc] TRS) = W at HS ⊢
      generalize w1.heap.size = A at HS ⊢
      have HC := Lib.hid (fun (W2 : World) (hb : Below W.heap.size W W2) => (show W2.cell? ⟨A, 0, none⟩ = some (.slice va S.vols.length vc) ∧ W2.cell? ⟨A, 1, none⟩ = some (.slice sa S.snaps.length sc) from ⟨cells_at ((hb.block _ (Array.getElem?_eq_some_iff.1 HS.out.2).1).trans HS.out.2) 0, cells_at ((hb.block _ (Array.getElem?_eq_some_iff.1 HS.out.2).1).trans HS.out.2) 1⟩))
      have HII := Lib.hid (IntsAt.row HI.out HS.out.1.1)
      have HB0 := Lib.hid (Below.refl W.heap.size W)
      go_upto_region 5 with (go_at_call 16; refine (ugrow_any p S v bl _ W (HS.out.1.2.1.below HB0.out) (IntsAt.row HII.out HB0.out) (by omega)).mono ?_; rintro e x0 ⟨rfl, y0⟩)
      have HB1 := Lib.hid (HB0.out.trans (y0.mono HB0.out.size))
      clear y0 HB0
      obtain ⟨c0, c1⟩ := HC.out x0 HB1.out
      go_upto_region 6 with (go_at_call 17; refine (rgrow_any _ _ S v bl _ x0 (HS.out.1.2.2.below HB1.out) HWF.out (IntsAt.row HII.out HB1.out) (by omega)).mono ?_; rintro e x1 ⟨rfl, y1⟩)
      have HB2 := Lib.hid (HB1.out.trans (y1.mono HB1.out.size))
      clear y1 HB1 c0 c1
      go_upto_region 7 with (go_at_call 18; refine (usnap_any p S v x1 (HS.out.1.2.1.below HB2.out)).mono ?_; rintro e x2 ⟨rfl, y2⟩)
      have HB3 := Lib.hid (HB2.out.trans (y2.mono HB2.out.size))
      clear y2 HB2
      obtain ⟨c0, c1⟩ := HC.out x2 HB3.out
      go_upto_region 8 with (go_at_call 19; refine (rsnap28_any _ _ S v x2 (HS.out.1.2.2.below HB3.out) HWF.out).mono ?_; rintro e x3 ⟨rfl, y3⟩)
      have HB4 := Lib.hid (HB3.out.trans (y3.mono HB3.out.size))
      clear y3 HB3 c0 c1
      go_upto_region 9 with (go_at_call 20; refine (uclone_any p S s x3 (HS.out.1.2.1.below HB4.out)).mono ?_; rintro e x4 ⟨rfl, y4⟩)
      have HB5 := Lib.hid (HB4.out.trans (y4.mono HB4.out.size))
      clear y4 HB4
      obtain ⟨c0, c1⟩ := HC.out x4 HB5.out
      go_upto_region 10 with (go_at_call 21; refine (rclone28_any _ _ S s x4 (HS.out.1.2.2.below HB5.out) HWF.out).mono ?_; rintro e x5 ⟨rfl, y5⟩)
      have HB6 := Lib.hid (HB5.out.trans (y5.mono HB5.out.size))
      clear y5 HB5 c0 c1
      go_upto_region 11 with (go_at_call 22; refine (urest_any p S v s x5 (HS.out.1.2.1.below HB6.out)).mono ?_; rintro e x6 ⟨rfl, y6⟩)
      have HB7 := Lib.hid (HB6.out.trans (y6.mono HB6.out.size))
      clear y6 HB6
      obtain ⟨c0, c1⟩ := HC.out x6 HB7.out
      go_upto_region 12 with (go_at_call 23; refine (rrest28_any _ _ S v s x6 (HS.out.1.2.2.below HB7.out) HWF.out).mono ?_; rintro e x7 ⟨rfl, y7⟩)
      have HB8 := Lib.hid (HB7.out.trans (y7.mono HB7.out.size))
      clear y7 HB7 c0 c1
      go_wp2_with (go_at_call 10; refine (sanity_any _).mono ?_; rintro e w20 ⟨rfl, h20⟩)
      go_ret
      exact ⟨rfl, HS.out.1.1.trans ((HB8.out.trans (h20.mono HB8.out.size)).mono HS.out.1.1.size)⟩
    · have hbd : decide ((80 : Int) < (bl.length : Int)) = true := decide_eq_true (by omega)
      go_enter Tryz.func4, Tryz.ntmps4
      go_wp2_with (first
        | (go_at_call 9; refine HN.out.mono ?_; rintro e w1 ⟨p, va, vc, sa, sc, rfl, h1⟩)
        | (go_at_call 10; refine (sanity_any _).mono ?_; rintro e w2 ⟨rfl, h2⟩))
      go_ret
      have hal := (Below.refl w1.heap.size w1).alloc (Nat.le_refl _) (.cells #[.slice va S.vols.length vc, .slice sa S.snaps.length sc] TRS)
      exact ⟨rfl, ((h1.out.next hal).next h2).1⟩
  · have HN := Lib.hid (build_no sv l w hscr (by omega))
    unfold nilV at HN
    obtain ⟨ba, bc, rfl, hb0⟩ := id hb
    clear hscr hb hb0
    go_enter Tryz.func4, Tryz.ntmps4
    go_wp2_with (first
      | (go_at_call 9; refine HN.out.mono ?_; rintro e w1 ⟨rfl, h1⟩)
      | (go_at_call 10; refine (sanity_any _).mono ?_; rintro e w2 ⟨rfl, h2⟩))
    go_ret
    have hal := h1.alloc h1.size (.cells #[.slice none 0 0, .slice none 0 0] TRS)
    exact ⟨rfl, hal.trans (h2.mono hal.size)⟩
set_option maxRecDepth 100000 in
theorem usageForecastMatchesSpec_lifted (os : Os) (started : os.Started) (H : Type) (enc : TypeId × Value → H) :
    ReturnsInHanded {} Tryz.checked os 4 .any (Rows.usageForecastMatchesSpecSpec.pre6 enc Tryz.prog Tryz.f4 Rows.usageForecastMatchesSpecRow.domain false) (Rows.usageForecastMatchesSpecSpec.post enc Tryz.prog Tryz.f4 false true false false) := by
  refine returnsInHanded_of_change (C := Tryz.checked) law_own started (by kernel_rfl) Tryz.func4
    (ChangeSpec.witness6 (enc := enc) (C := Tryz.checked) false ⟨#[], #[.slice none 0 0, .int .i64 0, .int .i64 0, .slice none 0 0], []⟩ 8 (by kernel_rfl) (by kernel_rfl) (by kernel_rfl) (by kernel_rfl)) ?_
  intro W base args ds gs before hval0 hW _ _
  have hval : ∀ (j : Nat) t v, Tryz.f4.params[j]? = some t → args[j]? = some v → Value.okWide Tryz.prog W .any base t v := hval0
  have hW' := hW
  obtain ⟨p, q, hA0, hV, rfl, _, _⟩ := hW
  have hA : DataW.TrodAll enc Tryz.prog W 0 (fun _ => true) true Tryz.f4.params.toList args.toList ds p := hA0
  rw [Tryz.params4] at hA hval
  obtain ⟨w0, vs0, d0, ds0, p0, q0, hargs, rfl, rfl, h0, r0⟩ := trodAll_cons hA
  obtain ⟨w1, vs1, d1, ds1, p1, q1, rfl, rfl, rfl, h1, r1⟩ := trodAll_cons r0
  obtain ⟨w2, vs2, d2, ds2, p2, q2, rfl, rfl, rfl, h2, r2⟩ := trodAll_cons r1
  obtain ⟨w3, vs3, d3, ds3, p3, q3, rfl, rfl, rfl, h3, r3⟩ := trodAll_cons r2
  obtain ⟨rfl, rfl, rfl⟩ := trodAll_nil r3
  obtain rfl : args = #[w0, w1, w2, w3] := by cases args; simp_all
  obtain ⟨rfl, rfl⟩ := trodVars_none hV
  obtain ⟨v0, l0, e0, s0⟩ := rd_vscript28 (trod_rd h0)
  obtain ⟨x0, y0, z0, rfl⟩ := okWide_slice Tryz.underlying22 (hval 0 _ w0 rfl rfl)
  obtain rfl : .slice x0 y0 z0 = v0 := by simpa [Value.cells] using e0
  obtain ⟨b1, rfl, rfl, rfl, wf1⟩ := open_int Tryz.underlying3 (hval 1 3 w1 rfl rfl) h1
  obtain ⟨b2, rfl, rfl, rfl, wf2⟩ := open_int Tryz.underlying3 (hval 2 3 w2 rfl rfl) h2
  obtain ⟨v3, l3, e3, s3, m3⟩ := rd_ints (trod_rd h3)
  obtain ⟨x3, y3, z3, rfl⟩ := okWide_slice Tryz.underlying32 (hval 3 _ w3 rfl rfl)
  obtain rfl : .slice x3 y3 z3 = v3 := by simpa [Value.cells] using e3
  refine (fore_law _ l0 b1 b2 _ l3 W s0 s3).mono fun e W' ⟨he, hg⟩ => ?_
  subst he
  exact ⟨_, rfl, law_post (by kernel_rfl) rfl (of_decide_eq_true (by kernel_rfl)) rfl hW' hg⟩

theorem usageForecastMatchesSpec_holds : Rows.UsageForecastMatchesSpecSaid :=
  OpenClaim.holds_of_wide 4 Tryz.f4 rfl rfl rfl rfl rfl rfl rfl ⟨rfl, rfl, rfl, rfl, rfl⟩ rfl rfl rfl rfl rfl (by kernel_rfl) Tryz.func4 (by kernel_rfl)
    (of_decide_eq_true (by kernel_rfl)) (by unfold Func.isWrapper; first | (rw [if_pos (by decide +kernel)]; kernel_rfl) | (rw [if_neg (by decide +kernel)]; exact ⟨rfl, rfl⟩))
    (fun os started H enc _ => usageForecastMatchesSpec_lifted os started H enc)

end Go.Proofs.YtmgcgdkndkibgaaGreat
