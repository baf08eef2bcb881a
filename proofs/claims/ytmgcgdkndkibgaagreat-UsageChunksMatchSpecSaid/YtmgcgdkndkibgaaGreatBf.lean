/- UsageChunksMatchSpec: for every space that at most 80 operations build, and any two tenants, Exclusive and Shared return the chunks that are specified. Printed by bf.py. -/
import Derived.Test.YtmgcgdkndkibgaaGreatBd
import Derived.Test.YtmgcgdkndkibgaaGreatAy
namespace Go.Proofs.YtmgcgdkndkibgaaGreat
open Go.RowKit Go.Vol Go.Sl Go.ChangeMaps Go.ChangeShapes Go.WideShapes Go.ChangeAt

set_option maxRecDepth 20000 in
set_option maxHeartbeats 8000000 in
theorem chunk_law (sv : Value) (l : List VOp) (ta tb : Int) (w : World) (hscr : ScrV w sv l) :
    Calls Tryz.prog 5 #[sv, .int .i64 ta, .int .i64 tb] w fun e w' => e = .returned (.bool true) ∧ Below w.heap.size w w' := by
  by_cases hl : l.length ≤ 80
  · have HN := Lib.hid (build_both sv l w hscr hl)
    have HWF := Lib.hid (runU_wf SpaceM.WF.new l)
    generalize runU SpaceM.new l = S at HN HWF
    have hcl := chunksM_len HWF.out
    have hel : (exclM S ta).length ≤ 2000000 := Nat.le_trans (List.length_filter_le _ _) hcl
    have hsl : (sharM S ta tb).length ≤ 2000000 := Nat.le_trans (List.length_filter_le _ _) hcl
    clear hscr hl
    go_enter Tryz.func5, Tryz.ntmps5
    go_upto_region 4 with (go_at_call 9; refine HN.out.mono ?_; rintro e w1 ⟨p, va, vc, sa, sc, rfl, h1⟩)
    have hal := (Below.refl w1.heap.size w1).alloc (Nat.le_refl _) (.cells #[.slice va S.vols.length vc, .slice sa S.snaps.length sc] TRS)
    have HS := Lib.hid (And.intro (h1.out.next hal) (heap_alloc_new w1 (.cells #[.slice va S.vols.length vc, .slice sa S.snaps.length sc] TRS)))
    clear h1 hal HN
    generalize w1.alloc (.cells #[.slice va S.vols.length vc, .slice sa S.snaps.length sc] TRS) = W at HS ⊢
    generalize w1.heap.size = A at HS ⊢
    have HC := Lib.hid (fun (W2 : World) (hb : Below W.heap.size W W2) => (show W2.cell? ⟨A, 0, none⟩ = some (.slice va S.vols.length vc) ∧ W2.cell? ⟨A, 1, none⟩ = some (.slice sa S.snaps.length sc) from ⟨cells_at ((hb.block _ (Array.getElem?_eq_some_iff.1 HS.out.2).1).trans HS.out.2) 0, cells_at ((hb.block _ (Array.getElem?_eq_some_iff.1 HS.out.2).1).trans HS.out.2) 1⟩))
    have hd0 : Below W.heap.size W W.drew := (Below.refl _ _).drew
    have HB0 := Lib.hid hd0
    have hS0 := HC.out W.drew hd0
    refine reg_begin (fun w' => w'.cell? ⟨A, 0, none⟩ = some (.slice va S.vols.length vc) ∧ w'.cell? ⟨A, 1, none⟩ = some (.slice sa S.snaps.length sc)) (by kernel_rfl) ?_
    refine reg_call 0 rfl rfl (by decide +kernel) rfl (f := 10) (args := #[]) (R := fun v w' => v = .bool true ∧ Hid (Below W.heap.size W w' ∧ True)) (by kernel_rfl)
      ((sanity_any W.drew).mono fun e w' h => ⟨_, h.1, rfl, hd0.trans (h.2.mono hd0.size), trivial⟩) ?_
    rintro _ W1 ⟨rfl, h1⟩
    have HB1 := Lib.hid (show Below W.heap.size W W1 from h1.out.1)
    have hS1 := HC.out W1 HB1.out
    refine ⟨hS1, ?_⟩
    simp only [List.setIfInBounds_toArray, List.set_cons_succ, List.set_cons_zero]
    (apply reg_take 1 rfl rfl (by decide +kernel) rfl); (rintro w' ⟨h1, h2⟩; go_simp; rfl); exact hS1; simp only [List.setIfInBounds_toArray, List.set_cons_succ, List.set_cons_zero]
    (apply reg_take 2 rfl rfl (by decide +kernel) rfl); (rintro w' ⟨h1, h2⟩; go_simp; rfl); exact hS1; simp only [List.setIfInBounds_toArray, List.set_cons_succ, List.set_cons_zero]
    (apply reg_take 3 rfl rfl (by decide +kernel) rfl); (rintro w' ⟨h1, h2⟩; go_simp; rfl); exact hS1; simp only [List.setIfInBounds_toArray, List.set_cons_succ, List.set_cons_zero]
    (apply reg_take 5 rfl rfl (by decide +kernel) rfl); (rintro w' ⟨h1, h2⟩; go_simp; rfl); exact hS1; simp only [List.setIfInBounds_toArray, List.set_cons_succ, List.set_cons_zero]
    (apply reg_take 6 rfl rfl (by decide +kernel) rfl); (rintro w' ⟨h1, h2⟩; go_simp; rfl); exact hS1; simp only [List.setIfInBounds_toArray, List.set_cons_succ, List.set_cons_zero]
    refine reg_call 4 rfl rfl (by decide +kernel) rfl (f := 25) (args := #[.pointer (some ⟨p, 0, none⟩), .int .i64 ta]) (R := fun v w' => Hid (Below W.heap.size W w' ∧ IntsAt w' v (exclM S ta))) (by kernel_rfl)
      ((uexcl_any p S ta W1 (HS.out.1.2.1.below HB1.out) HWF.out).mono fun e w' h => by obtain ⟨v, h1, h2⟩ := h; exact ⟨v, h1, HB1.out.trans (h2.out.1.mono HB1.out.size), h2.out.2⟩) ?_
    rintro v2 W2 h2
    have HB2 := Lib.hid (show Below W.heap.size W W2 from h2.out.1)
    have hS2 := HC.out W2 HB2.out
    refine ⟨hS2, ?_⟩
    simp only [List.setIfInBounds_toArray, List.set_cons_succ, List.set_cons_zero]
    refine reg_call 7 rfl rfl (by decide +kernel) rfl (f := 26) (args := #[.agg #[.slice va S.vols.length vc, .slice sa S.snaps.length sc], .int .i64 ta]) (R := fun v w' => Hid (Below W.heap.size W w' ∧ (IntsAt w' v2 (exclM S ta) ∧ IntsAt w' v (exclM S ta)))) (by kernel_rfl)
      ((rexcl_any _ _ S ta W2 (HS.out.1.2.2.below HB2.out) HWF.out).mono fun e w' h => by obtain ⟨v, h1, h4⟩ := h; exact ⟨v, h1, HB2.out.trans (h4.out.1.mono HB2.out.size), IntsAt.row h2.out.2 h4.out.1, h4.out.2.at⟩) ?_
    rintro v3 W3 h3
    have HB3 := Lib.hid (show Below W.heap.size W W3 from h3.out.1)
    have hS3 := HC.out W3 HB3.out
    refine ⟨hS3, ?_⟩
    simp only [List.setIfInBounds_toArray, List.set_cons_succ, List.set_cons_zero]
    refine reg_call 8 rfl rfl (by decide +kernel) rfl (f := 24) (args := #[v2, v3]) (R := fun v w' => v = .bool true ∧ Hid (Below W.heap.size W w' ∧ True)) (by kernel_rfl)
      ((same28_any v2 v3 _ _ W3 h3.out.2.1 h3.out.2.2 (by omega)).mono fun e w' h => ⟨_, h.1, by rw [decide_eq_true rfl], HB3.out.trans (h.2.mono HB3.out.size), trivial⟩) ?_
    rintro _ W4 ⟨rfl, h4⟩
    have HB4 := Lib.hid (show Below W.heap.size W W4 from h4.out.1)
    have hS4 := HC.out W4 HB4.out
    refine ⟨hS4, ?_⟩
    simp only [List.setIfInBounds_toArray, List.set_cons_succ, List.set_cons_zero]
    (apply reg_take 9 rfl rfl (by decide +kernel) rfl); (rintro w' ⟨h1, h2⟩; go_simp; rfl); exact hS4; simp only [List.setIfInBounds_toArray, List.set_cons_succ, List.set_cons_zero]
    (apply reg_take 10 rfl rfl (by decide +kernel) rfl); (rintro w' ⟨h1, h2⟩; go_simp; rfl); exact hS4; simp only [List.setIfInBounds_toArray, List.set_cons_succ, List.set_cons_zero]
    (apply reg_take 11 rfl rfl (by decide +kernel) rfl); (rintro w' ⟨h1, h2⟩; go_simp; rfl); exact hS4; simp only [List.setIfInBounds_toArray, List.set_cons_succ, List.set_cons_zero]
    (apply reg_take 12 rfl rfl (by decide +kernel) rfl); (rintro w' ⟨h1, h2⟩; go_simp; rfl); exact hS4; simp only [List.setIfInBounds_toArray, List.set_cons_succ, List.set_cons_zero]
    (apply reg_take 13 rfl rfl (by decide +kernel) rfl); (rintro w' ⟨h1, h2⟩; go_simp; rfl); exact hS4; simp only [List.setIfInBounds_toArray, List.set_cons_succ, List.set_cons_zero]
    (apply reg_take 15 rfl rfl (by decide +kernel) rfl); (rintro w' ⟨h1, h2⟩; go_simp; rfl); exact hS4; simp only [List.setIfInBounds_toArray, List.set_cons_succ, List.set_cons_zero]
    (apply reg_take 16 rfl rfl (by decide +kernel) rfl); (rintro w' ⟨h1, h2⟩; go_simp; rfl); exact hS4; simp only [List.setIfInBounds_toArray, List.set_cons_succ, List.set_cons_zero]
    (apply reg_take 17 rfl rfl (by decide +kernel) rfl); (rintro w' ⟨h1, h2⟩; go_simp; rfl); exact hS4; simp only [List.setIfInBounds_toArray, List.set_cons_succ, List.set_cons_zero]
    refine reg_call 14 rfl rfl (by decide +kernel) rfl (f := 27) (args := #[.pointer (some ⟨p, 0, none⟩), .int .i64 ta, .int .i64 tb]) (R := fun v w' => Hid (Below W.heap.size W w' ∧ IntsAt w' v (sharM S ta tb))) (by kernel_rfl)
      ((ushar_any p S ta tb W4 (HS.out.1.2.1.below HB4.out) HWF.out).mono fun e w' h => by obtain ⟨v, h1, h2⟩ := h; exact ⟨v, h1, HB4.out.trans (h2.out.1.mono HB4.out.size), h2.out.2⟩) ?_
    rintro v5 W5 h5
    have HB5 := Lib.hid (show Below W.heap.size W W5 from h5.out.1)
    have hS5 := HC.out W5 HB5.out
    refine ⟨hS5, ?_⟩
    simp only [List.setIfInBounds_toArray, List.set_cons_succ, List.set_cons_zero]
    refine reg_call 18 rfl rfl (by decide +kernel) rfl (f := 28) (args := #[.agg #[.slice va S.vols.length vc, .slice sa S.snaps.length sc], .int .i64 ta, .int .i64 tb]) (R := fun v w' => Hid (Below W.heap.size W w' ∧ (IntsAt w' v5 (sharM S ta tb) ∧ IntsAt w' v (sharM S ta tb)))) (by kernel_rfl)
      ((rshar_any _ _ S ta tb W5 (HS.out.1.2.2.below HB5.out) HWF.out).mono fun e w' h => by obtain ⟨v, h1, h4⟩ := h; exact ⟨v, h1, HB5.out.trans (h4.out.1.mono HB5.out.size), IntsAt.row h5.out.2 h4.out.1, h4.out.2.at⟩) ?_
    rintro v6 W6 h6
    have HB6 := Lib.hid (show Below W.heap.size W W6 from h6.out.1)
    have hS6 := HC.out W6 HB6.out
    refine ⟨hS6, ?_⟩
    simp only [List.setIfInBounds_toArray, List.set_cons_succ, List.set_cons_zero]
    refine reg_call 19 rfl rfl (by decide +kernel) rfl (f := 24) (args := #[v5, v6]) (R := fun v w' => v = .bool true ∧ Hid (Below W.heap.size W w' ∧ True)) (by kernel_rfl)
      ((same28_any v5 v6 _ _ W6 h6.out.2.1 h6.out.2.2 (by omega)).mono fun e w' h => ⟨_, h.1, by rw [decide_eq_true rfl], HB6.out.trans (h.2.mono HB6.out.size), trivial⟩) ?_
    rintro _ W7 ⟨rfl, h7⟩
    have HB7 := Lib.hid (show Below W.heap.size W W7 from h7.out.1)
    have hS7 := HC.out W7 HB7.out
    refine ⟨hS7, ?_⟩
    simp only [List.setIfInBounds_toArray, List.set_cons_succ, List.set_cons_zero]
    (apply reg_take 20 rfl rfl (by decide +kernel) rfl); (rintro w' ⟨h1, h2⟩; go_simp; rfl); exact hS7; simp only [List.setIfInBounds_toArray, List.set_cons_succ, List.set_cons_zero]
    (apply reg_take 21 rfl rfl (by decide +kernel) rfl); (rintro w' ⟨h1, h2⟩; go_simp; rfl); exact hS7; simp only [List.setIfInBounds_toArray, List.set_cons_succ, List.set_cons_zero]
    refine reg_done (by decide +kernel) ?_
    have HZ := Lib.hid (HS.out.1.1.trans (HB7.out.mono HS.out.1.1.size))
    clear hS0 hS1 hS2 hS3 hS4 hS5 hS6 hS7 h1 h2 h3 h4 h5 h6 h7
    go_wp2
    go_ret
    exact ⟨rfl, HZ.out⟩
  · have HN := Lib.hid (build_no sv l w hscr (by omega))
    unfold nilV at HN
    clear hscr
    go_enter Tryz.func5, Tryz.ntmps5
    go_wp2_with (first
      | (go_at_call 9; refine HN.out.mono ?_; rintro e w1 ⟨rfl, h1⟩)
      | (go_at_call 10; refine (sanity_any _).mono ?_; rintro e w2 ⟨rfl, h2⟩))
    go_ret
    have hal := h1.alloc h1.size (.cells #[.slice none 0 0, .slice none 0 0] TRS)
    exact ⟨rfl, hal.trans (h2.mono hal.size)⟩
set_option maxRecDepth 100000 in
theorem usageChunksMatchSpec_lifted (os : Os) (started : os.Started) (H : Type) (enc : TypeId × Value → H) :
    ReturnsInHanded {} Tryz.checked os 5 .any (Rows.usageChunksMatchSpecSpec.pre6 enc Tryz.prog Tryz.f5 Rows.usageChunksMatchSpecRow.domain false) (Rows.usageChunksMatchSpecSpec.post enc Tryz.prog Tryz.f5 false true false false) := by
  refine returnsInHanded_of_change (C := Tryz.checked) law_own started (by kernel_rfl) Tryz.func5
    (ChangeSpec.witness6 (enc := enc) (C := Tryz.checked) false ⟨#[], #[.slice none 0 0, .int .i64 0, .int .i64 0], []⟩ 8 (by kernel_rfl) (by kernel_rfl) (by kernel_rfl) (by kernel_rfl)) ?_
  intro W base args ds gs before hval0 hW _ _
  have hval : ∀ (j : Nat) t v, Tryz.f5.params[j]? = some t → args[j]? = some v → Value.okWide Tryz.prog W .any base t v := hval0
  have hW' := hW
  obtain ⟨p, q, hA0, hV, rfl, _, _⟩ := hW
  have hA : DataW.TrodAll enc Tryz.prog W 0 (fun _ => true) true Tryz.f5.params.toList args.toList ds p := hA0
  rw [Tryz.params5] at hA hval
  obtain ⟨w0, vs0, d0, ds0, p0, q0, hargs, rfl, rfl, h0, r0⟩ := trodAll_cons hA
  obtain ⟨w1, vs1, d1, ds1, p1, q1, rfl, rfl, rfl, h1, r1⟩ := trodAll_cons r0
  obtain ⟨w2, vs2, d2, ds2, p2, q2, rfl, rfl, rfl, h2, r2⟩ := trodAll_cons r1
  obtain ⟨rfl, rfl, rfl⟩ := trodAll_nil r2
  obtain rfl : args = #[w0, w1, w2] := by cases args; simp_all
  obtain ⟨rfl, rfl⟩ := trodVars_none hV
  obtain ⟨v0, l0, e0, s0⟩ := rd_vscript28 (trod_rd h0)
  obtain ⟨x0, y0, z0, rfl⟩ := okWide_slice Tryz.underlying22 (hval 0 _ w0 rfl rfl)
  obtain rfl : .slice x0 y0 z0 = v0 := by simpa [Value.cells] using e0
  obtain ⟨b1, rfl, rfl, rfl, wf1⟩ := open_int Tryz.underlying3 (hval 1 3 w1 rfl rfl) h1
  obtain ⟨b2, rfl, rfl, rfl, wf2⟩ := open_int Tryz.underlying3 (hval 2 3 w2 rfl rfl) h2
  refine (chunk_law _ l0 b1 b2 W s0).mono fun e W' ⟨he, hg⟩ => ?_
  subst he
  exact ⟨_, rfl, law_post (by kernel_rfl) rfl (of_decide_eq_true (by kernel_rfl)) rfl hW' hg⟩

theorem usageChunksMatchSpec_holds : Rows.UsageChunksMatchSpecSaid :=
  OpenClaim.holds_of_wide 5 Tryz.f5 rfl rfl rfl rfl rfl rfl rfl ⟨rfl, rfl, rfl, rfl, rfl⟩ rfl rfl rfl rfl rfl (by kernel_rfl) Tryz.func5 (by kernel_rfl)
    (of_decide_eq_true (by kernel_rfl)) (by unfold Func.isWrapper; first | (rw [if_pos (by decide +kernel)]; kernel_rfl) | (rw [if_neg (by decide +kernel)]; exact ⟨rfl, rfl⟩))
    (fun os started H enc _ => usageChunksMatchSpec_lifted os started H enc)

end Go.Proofs.YtmgcgdkndkibgaaGreat
