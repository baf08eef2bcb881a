/- UsageMatchesSpec: for every space that at most 80 operations build, and every tenant, Of, Parts and Blocks return what is specified. Printed by bg.py. -/
import Derived.Test.YtmgcgdkndkibgaaGreatBd
import Derived.Test.YtmgcgdkndkibgaaGreatAp2
namespace Go.Proofs.YtmgcgdkndkibgaaGreat
open Go.RowKit Go.Vol Go.Sl Go.ChangeMaps Go.ChangeShapes Go.WideShapes Go.ChangeAt

def MtF (U : Nat → Int × Int) (g4 : Nat) (v5 v9 : Value) (X : HProp) : HProp := ownAt TUse 2 v9 16 (useL U) * (ownAt 3 1 v5 16 (blkL U) * (pts g4 (.cells (useA U) TUse (0, 0)) * X))
structure MtSt (W : World) (U : Nat → Int × Int) (g4 : Nat) (v5 v9 : Value) (i : Value) (wr : World) : Prop where
  st : ∃ k : Nat, k ≤ 16 ∧ i = .int .i64 (k : Int) ∧ Hid (Same W wr ∧ Sat wr (MtF U g4 v5 v9 (old W)))
set_option maxRecDepth 20000 in
set_option maxHeartbeats 8000000 in
theorem match_law (sv : Value) (l : List VOp) (t : Int) (w : World) (hscr : ScrV w sv l) :
    Calls Tryz.prog 3 #[sv, .int .i64 t] w fun e w' => e = .returned (.bool true) ∧ Below w.heap.size w w' := by
  by_cases hl : l.length ≤ 80
  · have HN := Lib.hid (build_both sv l w hscr hl)
    have HWF := Lib.hid (runU_wf SpaceM.WF.new l)
    generalize runU SpaceM.new l = S at HN HWF
    clear hscr hl
    go_enter Tryz.func3, Tryz.ntmps3
    go_upto_region 4 with (go_at_call 9; refine HN.out.mono ?_; rintro e w1 ⟨p, va, vc, sa, sc, rfl, h1⟩)
    have hal := (Below.refl w1.heap.size w1).alloc (Nat.le_refl _) (.cells #[.slice va S.vols.length vc, .slice sa S.snaps.length sc] TRS)
    have HS := Lib.hid (And.intro (h1.out.next hal) (heap_alloc_new w1 (.cells #[.slice va S.vols.length vc, .slice sa S.snaps.length sc] TRS)))
    clear h1 hal HN
    generalize w1.alloc (.cells #[.slice va S.vols.length vc, .slice sa S.snaps.length sc] TRS) = W at HS ⊢
    generalize w1.heap.size = A at HS ⊢
    have HC := Lib.hid (fun (W2 : World) (hb : Below W.heap.size W W2) => (show W2.cell? ⟨A, 0, none⟩ = some (.slice va S.vols.length vc) ∧ W2.cell? ⟨A, 1, none⟩ = some (.slice sa S.snaps.length sc) from ⟨cells_at ((hb.block _ (Array.getElem?_eq_some_iff.1 HS.out.2).1).trans HS.out.2) 0, cells_at ((hb.block _ (Array.getElem?_eq_some_iff.1 HS.out.2).1).trans HS.out.2) 1⟩))
    go_wp2_with (first
      | (go_at_call 11; refine (of_any p S W HS.out.1.2.1 HWF.out).mono ?_; rintro e w4 ⟨g4, rfl, h4⟩; have HB4 := Lib.hid (h4.out.1.below_of h4.out.2))
      | (go_at_call 12; refine (blocks_any p S w4 (HS.out.1.2.1.below HB4.out) HWF.out).mono ?_; rintro e w5 ⟨v5, rfl, h5⟩; have HB5 := Lib.hid (HB4.out.trans ((h5.out.1.below_of h5.out.2).mono HB4.out.size)); have H5 := Lib.hid (And.intro (h4.out.1.trans h5.out.1) (sat_old h5.out.2 h4.out.2)); obtain ⟨a5, c5, rfl⟩ := ownAt_slice h5.out.2; clear h4 h5)
      | (go_at_call 13; refine (parts_any p S t w5 (HS.out.1.2.1.below HB5.out) HWF.out).mono ?_; rintro e w6 ⟨rfl, h6⟩; have HB6 := Lib.hid (HB5.out.trans (h6.mono HB5.out.size)); replace H5 := Lib.hid (And.intro (H5.out.1.below h6) (H5.out.2.below h6)); clear h6; obtain ⟨c0, c1⟩ := HC.out w6 HB6.out)
      | (go_at_call 14; refine (rparts28_any _ _ S t w6 (HS.out.1.2.2.below HB6.out) HWF.out).mono ?_; rintro e w7 ⟨rfl, h7⟩; have HB7 := Lib.hid (HB6.out.trans (h7.mono HB6.out.size)); replace H5 := Lib.hid (And.intro (H5.out.1.below h7) (H5.out.2.below h7)); clear h7 c0 c1; obtain ⟨c0, c1⟩ := HC.out w7 HB7.out; have hq1 : ((tenN S.vols t : Int) != (tenN S.vols t : Int)) = false := bne_self_eq_false _; have hq2 : ((tenN S.snaps t : Int) != (tenN S.snaps t : Int)) = false := bne_self_eq_false _)
      | (go_at_call 15; refine (rof_any _ _ S w7 (HS.out.1.2.2.below HB7.out) HWF.out).mono ?_; rintro e w9 ⟨v9, rfl, h9⟩; have H9 := Lib.hid (show Same W w9 ∧ Sat w9 (MtF (useOf S) g4 (.slice a5 16 c5) v9 (old W)) from ⟨H5.out.1.trans h9.out.1, sat_old h9.out.2 H5.out.2⟩); obtain ⟨a9, c9, rfl⟩ := ownAt_slice h9.out.2; clear h9 H5 c0 c1))
    have HU := Lib.hid (use_bound S HWF.out)
    generalize useOf S = U at H9 HU
    go_loopw [62] (fun i wr => MtSt W U g4 (.slice a5 16 c5) (.slice a9 16 c9) i wr) (fun i _ => 16 - (intOf i).toNat)
    case atStart => exact ⟨⟨0, Nat.zero_le _, rfl, H9.out⟩⟩
    case round =>
      clear H9
      obtain ⟨k, hk, rfl, HX⟩ := hrel.st
      clear hrel
      by_cases hlt : k < 16
      · have hltd : decide ((k : Int) < 16) = true := decide_eq_true (by omega)
        have hki : (k : Int) ≤ 16 := by omega
        have hkl : (k : Int) < 16 := by omega
        have hwk : IntKind.i64.wrap ((k : Int) + 1) = (k : Int) + 1 := IntWalk.i64_in _ (by omega)
        have hu := HU.out k
        have hws : IntKind.i64.wrap ((U k).1 + (U k).2) = (U k).1 + (U k).2 := IntWalk.i64_in _ (by omega)
        obtain ⟨g9, c9', e9, hc9⟩ := ownAt_cells HX.out.2 (by decide)
        cases e9
        have b0 := hc9 (k * 2) _ (useL_at U hlt).1
        have b1 := hc9 (k * 2 + 1) _ (useL_at U hlt).2
        obtain ⟨g5, c5', e5, hc5⟩ := ownAt_cells HX.out.2.right (by decide)
        cases e5
        have HQ := Lib.hid (show (blkL U)[k]? = some (.int .i64 ((U k).1 + (U k).2)) from by unfold blkL; rw [List.getElem?_map, List.getElem?_range hlt]; rfl)
        clear hc9 hc5
        go_upto_region 12 with (fail)
        clear b0 b1
        have H2 := Lib.hid (And.intro (HX.out.1.alloc (.cells #[.int .i64 (U k).1, .int .i64 (U k).2] TUse)) (HX.out.2.alloc (.cells #[.int .i64 (U k).1, .int .i64 (U k).2] TUse)))
        clear HX
        generalize wr.alloc (.cells #[.int .i64 (U k).1, .int .i64 (U k).2] TUse) = W2 at H2 ⊢
        generalize wr.heap.size = m at H2 ⊢
        obtain ⟨ti, hti, hz0, hts, hz2⟩ := info_parts info_use
        obtain ⟨tj, htj, hy0, hys, hy2⟩ := info_parts info_i64
        have hS0 : (fun w' : World => ((w'.cell? ⟨g4, k * 2, none⟩ = some (.int .i64 (U k).1) ∧ w'.cell? ⟨g4, k * 2 + 1, none⟩ = some (.int .i64 (U k).2)) ∧ (w'.cell? ⟨m, 0, none⟩ = some (.int .i64 (U k).1) ∧ w'.cell? ⟨m, 1, none⟩ = some (.int .i64 (U k).2)) ∧ w'.cell? ⟨g5, k, none⟩ = some (.int .i64 ((U k).1 + (U k).2)))) W2.drew := by
          refine ⟨useA_cells H2.out.2.right.right.right hlt, ⟨cells_at H2.out.2.block 0, cells_at H2.out.2.block 1⟩, ?_⟩
          obtain ⟨g', c', e', hc'⟩ := ownAt_cells H2.out.2.right.right (by decide)
          cases e'
          exact hc' k _ HQ.out
        have hne : ((U k).1 + (U k).2 != (U k).1 + (U k).2) = false := bne_self_eq_false _
        refine reg_begin (fun w' => ((w'.cell? ⟨g4, k * 2, none⟩ = some (.int .i64 (U k).1) ∧ w'.cell? ⟨g4, k * 2 + 1, none⟩ = some (.int .i64 (U k).2)) ∧ (w'.cell? ⟨m, 0, none⟩ = some (.int .i64 (U k).1) ∧ w'.cell? ⟨m, 1, none⟩ = some (.int .i64 (U k).2)) ∧ w'.cell? ⟨g5, k, none⟩ = some (.int .i64 ((U k).1 + (U k).2)))) (by kernel_rfl) ?_
        (apply reg_take 0 rfl rfl (by decide +kernel) rfl); (rintro w' ⟨⟨h1, h2⟩, ⟨h3, h4⟩, h5⟩; go_simp; rfl); exact hS0; simp only [List.setIfInBounds_toArray, List.set_cons_succ, List.set_cons_zero]
        (apply reg_take 1 rfl rfl (by decide +kernel) rfl); (rintro w' ⟨⟨h1, h2⟩, ⟨h3, h4⟩, h5⟩; go_simp; rfl); exact hS0; simp only [List.setIfInBounds_toArray, List.set_cons_succ, List.set_cons_zero]
        refine reg_take 2 (v := .pointer (some ⟨g4, 0 + k * 2, none⟩)) rfl rfl (by decide +kernel) rfl (fun _ _ => exec_index_slice rfl rfl rfl Tryz.underlying30 hti hts hlt) hS0 ?_; simp only [List.setIfInBounds_toArray, List.set_cons_succ, List.set_cons_zero]
        rw [Nat.zero_add]
        (apply reg_take 3 rfl rfl (by decide +kernel) rfl); (rintro w' ⟨⟨h1, h2⟩, ⟨h3, h4⟩, h5⟩; go_simp; rfl); exact hS0; simp only [List.setIfInBounds_toArray, List.set_cons_succ, List.set_cons_zero]
        (apply reg_take 4 rfl rfl (by decide +kernel) rfl); (rintro w' ⟨⟨h1, h2⟩, ⟨h3, h4⟩, h5⟩; go_simp; rfl); exact hS0; simp only [List.setIfInBounds_toArray, List.set_cons_succ, List.set_cons_zero]
        refine reg_take 5 (v := .bool false) rfl rfl (by decide +kernel) rfl (fun w' h => exec_neq_use rfl rfl rfl) hS0 ?_; simp only [List.setIfInBounds_toArray, List.set_cons_succ, List.set_cons_zero]
        (apply reg_take 6 rfl rfl (by decide +kernel) rfl); (rintro w' ⟨⟨h1, h2⟩, ⟨h3, h4⟩, h5⟩; go_simp; rfl); exact hS0; simp only [List.setIfInBounds_toArray, List.set_cons_succ, List.set_cons_zero]
        (apply reg_take 7 rfl rfl (by decide +kernel) rfl); (rintro w' ⟨⟨h1, h2⟩, ⟨h3, h4⟩, h5⟩; go_simp; rfl); exact hS0; simp only [List.setIfInBounds_toArray, List.set_cons_succ, List.set_cons_zero]
        (apply reg_take 8 rfl rfl (by decide +kernel) rfl); (rintro w' ⟨⟨h1, h2⟩, ⟨h3, h4⟩, h5⟩; go_simp; rfl); exact hS0; simp only [List.setIfInBounds_toArray, List.set_cons_succ, List.set_cons_zero]
        (apply reg_take 9 rfl rfl (by decide +kernel) rfl); (rintro w' ⟨⟨h1, h2⟩, ⟨h3, h4⟩, h5⟩; go_simp; rfl); exact hS0; simp only [List.setIfInBounds_toArray, List.set_cons_succ, List.set_cons_zero]
        (apply reg_take 10 rfl rfl (by decide +kernel) rfl); (rintro w' ⟨⟨h1, h2⟩, ⟨h3, h4⟩, h5⟩; go_simp; rfl); exact hS0; simp only [List.setIfInBounds_toArray, List.set_cons_succ, List.set_cons_zero]
        (apply reg_take 11 rfl rfl (by decide +kernel) rfl); (rintro w' ⟨⟨h1, h2⟩, ⟨h3, h4⟩, h5⟩; go_simp; rfl); exact hS0; simp only [List.setIfInBounds_toArray, List.set_cons_succ, List.set_cons_zero]
        (apply reg_take 12 rfl rfl (by decide +kernel) rfl); (rintro w' ⟨⟨h1, h2⟩, ⟨h3, h4⟩, h5⟩; go_simp; rfl); exact hS0; simp only [List.setIfInBounds_toArray, List.set_cons_succ, List.set_cons_zero]
        (apply reg_take 13 rfl rfl (by decide +kernel) rfl); (rintro w' ⟨⟨h1, h2⟩, ⟨h3, h4⟩, h5⟩; go_simp; rfl); exact hS0; simp only [List.setIfInBounds_toArray, List.set_cons_succ, List.set_cons_zero]
        (apply reg_take 14 rfl rfl (by decide +kernel) rfl); (rintro w' ⟨⟨h1, h2⟩, ⟨h3, h4⟩, h5⟩; go_simp; rfl); exact hS0; simp only [List.setIfInBounds_toArray, List.set_cons_succ, List.set_cons_zero]
        (apply reg_take 15 rfl rfl (by decide +kernel) rfl); (rintro w' ⟨⟨h1, h2⟩, ⟨h3, h4⟩, h5⟩; go_simp; rfl); exact hS0; simp only [List.setIfInBounds_toArray, List.set_cons_succ, List.set_cons_zero]
        (apply reg_take 16 rfl rfl (by decide +kernel) rfl); (rintro w' ⟨⟨h1, h2⟩, ⟨h3, h4⟩, h5⟩; go_simp; rfl); exact hS0; simp only [List.setIfInBounds_toArray, List.set_cons_succ, List.set_cons_zero]
        (apply reg_take 17 rfl rfl (by decide +kernel) rfl); (rintro w' ⟨⟨h1, h2⟩, ⟨h3, h4⟩, h5⟩; go_simp; rfl); exact hS0; simp only [List.setIfInBounds_toArray, List.set_cons_succ, List.set_cons_zero]
        refine reg_done (by decide +kernel) ?_
        have H3 := Lib.hid (And.intro H2.out.1.drew H2.out.2.right.drew)
        clear hS0 H2 hti hz0 hts hz2 htj hy0 hys hy2
        go_wp2
        go_roundw
        case rel => exact ⟨⟨k + 1, hlt, rfl, H3.out⟩⟩
        case measure => simp only [intOf]; omega
      · obtain rfl : k = 16 := by omega
        have hltd : decide (((16 : Nat) : Int) < 16) = false := decide_eq_false (by omega)
        have hnlt : ¬ ((16 : Nat) : Int) < 16 := by omega
        have HBW := Lib.hid (HX.out.1.below_of (P := ownAt TUse 2 (.slice a9 16 c9) 16 (useL U) * (ownAt 3 1 (.slice a5 16 c5) 16 (blkL U) * pts g4 (.cells (useA U) TUse (0, 0)))) (HX.out.2.perm (by unfold MtF; ac_rfl)))
        clear HX
        go_wp2_with (go_at_call 10; refine (sanity_any _).mono ?_; rintro e w20 ⟨rfl, h20⟩)
        go_ret
        exact ⟨rfl, HS.out.1.1.trans ((HBW.out.trans (h20.mono HBW.out.size)).mono HS.out.1.1.size)⟩
  · have HN := Lib.hid (build_no sv l w hscr (by omega))
    unfold nilV at HN
    clear hscr
    go_enter Tryz.func3, Tryz.ntmps3
    go_wp2_with (first
      | (go_at_call 9; refine HN.out.mono ?_; rintro e w1 ⟨rfl, h1⟩)
      | (go_at_call 10; refine (sanity_any _).mono ?_; rintro e w2 ⟨rfl, h2⟩))
    go_ret
    have hal := h1.alloc h1.size (.cells #[.slice none 0 0, .slice none 0 0] TRS)
    exact ⟨rfl, hal.trans (h2.mono hal.size)⟩
set_option maxRecDepth 100000 in
theorem usageMatchesSpec_lifted (os : Os) (started : os.Started) (H : Type) (enc : TypeId × Value → H) :
    ReturnsInHanded {} Tryz.checked os 3 .any (Rows.usageMatchesSpecSpec.pre6 enc Tryz.prog Tryz.f3 Rows.usageMatchesSpecRow.domain false) (Rows.usageMatchesSpecSpec.post enc Tryz.prog Tryz.f3 false true false false) := by
  refine returnsInHanded_of_change (C := Tryz.checked) law_own started (by kernel_rfl) Tryz.func3
    (ChangeSpec.witness6 (enc := enc) (C := Tryz.checked) false ⟨#[], #[.slice none 0 0, .int .i64 0], []⟩ 8 (by kernel_rfl) (by kernel_rfl) (by kernel_rfl) (by kernel_rfl)) ?_
  intro W base args ds gs before hval0 hW _ _
  have hval : ∀ (j : Nat) t v, Tryz.f3.params[j]? = some t → args[j]? = some v → Value.okWide Tryz.prog W .any base t v := hval0
  have hW' := hW
  obtain ⟨p, q, hA0, hV, rfl, _, _⟩ := hW
  have hA : DataW.TrodAll enc Tryz.prog W 0 (fun _ => true) true Tryz.f3.params.toList args.toList ds p := hA0
  rw [Tryz.params3] at hA hval
  obtain ⟨w0, vs0, d0, ds0, p0, q0, hargs, rfl, rfl, h0, r0⟩ := trodAll_cons hA
  obtain ⟨w1, vs1, d1, ds1, p1, q1, rfl, rfl, rfl, h1, r1⟩ := trodAll_cons r0
  obtain ⟨rfl, rfl, rfl⟩ := trodAll_nil r1
  obtain rfl : args = #[w0, w1] := by cases args; simp_all
  obtain ⟨rfl, rfl⟩ := trodVars_none hV
  obtain ⟨v0, l0, e0, s0⟩ := rd_vscript28 (trod_rd h0)
  obtain ⟨x0, y0, z0, rfl⟩ := okWide_slice Tryz.underlying22 (hval 0 _ w0 rfl rfl)
  obtain rfl : .slice x0 y0 z0 = v0 := by simpa [Value.cells] using e0
  obtain ⟨b1, rfl, rfl, rfl, wf1⟩ := open_int Tryz.underlying3 (hval 1 3 w1 rfl rfl) h1
  refine (match_law _ l0 b1 W s0).mono fun e W' ⟨he, hg⟩ => ?_
  subst he
  exact ⟨_, rfl, law_post (by kernel_rfl) rfl (of_decide_eq_true (by kernel_rfl)) rfl hW' hg⟩

theorem usageMatchesSpec_holds : Rows.UsageMatchesSpecSaid :=
  OpenClaim.holds_of_wide 3 Tryz.f3 rfl rfl rfl rfl rfl rfl rfl ⟨rfl, rfl, rfl, rfl, rfl⟩ rfl rfl rfl rfl rfl (by kernel_rfl) Tryz.func3 (by kernel_rfl)
    (of_decide_eq_true (by kernel_rfl)) (by unfold Func.isWrapper; first | (rw [if_pos (by decide +kernel)]; kernel_rfl) | (rw [if_neg (by decide +kernel)]; exact ⟨rfl, rfl⟩))
    (fun os started H enc _ => usageMatchesSpec_lifted os started H enc)

end Go.Proofs.YtmgcgdkndkibgaaGreat
