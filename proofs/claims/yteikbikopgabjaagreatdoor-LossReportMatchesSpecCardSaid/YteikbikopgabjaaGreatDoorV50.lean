import Derived.Test.YteikbikopgabjaaGreatDoorV49
/- Part 50 of a proof; the last part says what is proved. -/
namespace Go.Proofs.YteikbikopgabjaaGreatDoor
open Go.RowKit Go.Sha Go.Sl Go.GF Go.Vol Go.Loss
set_option maxRecDepth 20000 in
set_option maxHeartbeats 4000000 in
theorem reportlaw_any (va vb vi : Value) (A B : List ElC) (l : List ItM) (w : World) (hA : CntL w va A) (hB : CntL w vb B) (hca : CapOk va) (hcb : CapOk vb) (hI : ItL w vi l) (hK : TabK w) (hT : TabF w) :
    Calls Tryz.prog 3 #[.agg #[va, vb, vi]] w fun e w' => e = .returned (.bool true) ∧ Below w.heap.size w w' := by
  have HSA := Lib.hid (fun W (hb : Below w.heap.size w W) => sanity41_any W (hK.below hb) (hT.below hb))
  have HBD := Lib.hid (fun W (hb : Below w.heap.size w W) => build_any41 va vb vi A B l W (hA.below hb) (hB.below hb) (hI.below hb) (hK.below hb))
  have HB1 := Lib.hid (al_below w (.cells #[va, vb, vi] TIn41))
  have HX1 := Lib.hid (inBox_alloc w va vb vi)
  have HRP := Lib.hid (fun W (hb : Below w.heap.size w W) (hF : FewP A B l) => rreport_any va vb vi A B l W (hA.below hb) (hB.below hb) (hI.below hb) hF (hK.below hb))
  have HRT := Lib.hid (fun W (hb : Below w.heap.size w W) (hG : GoodP A B l) => rtally_any va vb vi A B l W (hA.below hb) (hB.below hb) hca hcb (ten_ok hG.2).1 (ten_ok hG.2).2 (hI.below hb) hG.1 (hK.below hb))
  have HRW := Lib.hid (fun W (hb : Below w.heap.size w W) (hn : l.length ≤ 40) => rwaiting_any vi l W (hI.below hb) hn (hK.below hb))
  obtain ⟨ao, ac, rfl, -⟩ := id hA.row
  obtain ⟨bo, bc, rfl, -⟩ := id hB.row
  obtain ⟨io, ic, rfl, -⟩ := id hI
  clear hA hB hI hK hT hca hcb
  go_enter Tryz.func3, Tryz.ntmps3
  go_upto_region 1 with (fail)
  generalize w.alloc (.cells #[.slice ao A.length ac, .slice bo B.length bc, .slice io l.length ic] TIn41) = w1 at HB1 HX1 ⊢
  obtain ⟨g, hgq⟩ : ∃ g, g = w.heap.size := ⟨_, rfl⟩
  rw [← hgq] at HX1 ⊢
  have HGQ := Lib.hid hgq
  clear hgq
  go_upto_region 3 with (first
    | (go_at_call 9; refine (HSA.out w1 HB1.out).mono ?_; rintro e w2 ⟨rfl, h2⟩; have HW2 := Lib.hid (And.intro (HB1.out.trans (h2.mono HB1.out.size)) (HX1.out.below h2)); clear h2; have a0 := HW2.out.2.c0; have a1 := HW2.out.2.c1; have a2 := HW2.out.2.c2)
    | (go_at_call 10; refine (HBD.out w2 HW2.out.1).mono ?_; rintro e w3 h3; rcases h3.out with ⟨hgood, q, p, rfl, hbt⟩ | ⟨hng, rfl, h4⟩))
  rotate_left
  · have HB3 := Lib.hid (HW2.out.1.trans (h4.mono HW2.out.1.size))
    clear h3 h4 a0 a1 a2
    go_wp2
    go_ret
    exact ⟨rfl, HB3.out⟩
  obtain ⟨b, cp, rb, hsp, htr, hb3⟩ := built_read hbt hgood.1.2.2.1
  have HB3 := Lib.hid (show Below w.heap.size w w3 from HW2.out.1.trans (hb3.mono HW2.out.1.size))
  have HX3 := Lib.hid (HW2.out.2.below hb3)
  have HSP := Lib.hid (fun W (h : Below w3.heap.size w3 W) => hsp.below h)
  have HTR := Lib.hid (fun W (h : Below w3.heap.size w3 W) => htr.below h)
  have HGP := Lib.hid hgood
  have HWF := Lib.hid (spaceC_wf hgood.2)
  have HSM := Lib.hid (small_space hgood)
  have HLE := Lib.hid (lossR_eq (L := chunksM l) hgood.2 (lostC_chunks l))
  have HEE := Lib.hid (each_eq (L := chunksM l) hgood.2 (lostC_chunks l))
  have HOK := Lib.hid (report_ok (l := l) hgood.2)
  clear h3 hgood hbt hsp htr hb3 a0 a1 a2 HW2 HB1 HX1 HSA HBD
  go_upto_region 5 with (fail)
  have hS0 : Below w3.heap.size w3 w3.drew := (Below.refl _ _).drew
  refine reg_begin (fun w' => Below w3.heap.size w3 w') (by kernel_rfl) ?_
  (apply reg_take 0 rfl rfl (by decide +kernel) rfl); (rintro w' h1; go_simp; rfl); exact hS0; simp only [List.setIfInBounds_toArray, List.set_cons_succ, List.set_cons_zero]
  (apply reg_take 1 rfl rfl (by decide +kernel) rfl); (rintro w' h1; go_simp; rfl); exact hS0; simp only [List.setIfInBounds_toArray, List.set_cons_succ, List.set_cons_zero]
  (apply reg_take 3 rfl rfl (by decide +kernel) rfl); (rintro w' h1; go_simp; rfl); exact hS0; simp only [List.setIfInBounds_toArray, List.set_cons_succ, List.set_cons_zero]
  refine reg_take 4 (v := .slice ao A.length ac) rfl rfl (by decide +kernel) rfl (fun w' h => exec_load_cell rfl rfl Tryz.underlying22 rfl (HX3.out.below h).c0) hS0 ?_; simp only [List.setIfInBounds_toArray, List.set_cons_succ, List.set_cons_zero]
  (apply reg_take 5 rfl rfl (by decide +kernel) rfl); (rintro w' h1; go_simp; rfl); exact hS0; simp only [List.setIfInBounds_toArray, List.set_cons_succ, List.set_cons_zero]
  refine reg_take 6 (v := .slice bo B.length bc) rfl rfl (by decide +kernel) rfl (fun w' h => exec_load_cell rfl rfl Tryz.underlying22 rfl (HX3.out.below h).c1) hS0 ?_; simp only [List.setIfInBounds_toArray, List.set_cons_succ, List.set_cons_zero]
  (apply reg_take 7 rfl rfl (by decide +kernel) rfl); (rintro w' h1; go_simp; rfl); exact hS0; simp only [List.setIfInBounds_toArray, List.set_cons_succ, List.set_cons_zero]
  refine reg_take 8 (v := .slice io l.length ic) rfl rfl (by decide +kernel) rfl (fun w' h => exec_load_cell rfl rfl Tryz.underlying23 rfl (HX3.out.below h).c2) hS0 ?_; simp only [List.setIfInBounds_toArray, List.set_cons_succ, List.set_cons_zero]
  refine reg_call 2 rfl rfl (by decide +kernel) rfl (by kernel_rfl) (report_any q _ p b cp rb (chunksM l) w3.drew (HSP.out _ hS0) HWF.out HSM.out (HTR.out _ hS0)) ?_
  rintro v4 w4 ⟨h4, h5⟩
  simp only [List.setIfInBounds_toArray, List.set_cons_succ, List.set_cons_zero]
  rw [HLE.out] at h5
  have hb4 : Below w3.heap.size w3 w4 := hS0.trans ((h4.below_of h5).mono hS0.size)
  have HR4 := Lib.hid (own_rows h5)
  clear h4 h5 hS0
  refine ⟨hb4, ?_⟩
  refine reg_call 9 rfl rfl (by decide +kernel) rfl (by kernel_rfl) (HRP.out w4 (HB3.out.trans (hb4.mono HB3.out.size)) HGP.out.1) ?_
  rintro v5 w5 ⟨h4, h5⟩
  simp only [List.setIfInBounds_toArray, List.set_cons_succ, List.set_cons_zero]
  have hb45 := h4.below_of h5
  have hb5 : Below w3.heap.size w3 w5 := hb4.trans (hb45.mono hb4.size)
  have HR5 := Lib.hid (And.intro (HR4.out.below hb45) (own_rows h5))
  clear h4 h5 hb45 hb4 HR4
  refine ⟨hb5, ?_⟩
  refine reg_call 10 rfl rfl (by decide +kernel) rfl (R := fun v w' => v = .bool true ∧ Below w5.heap.size w5 w') (by kernel_rfl) ((sameG_any v4 v5 _ w5 HR5.out.1 HR5.out.2 HOK.out).mono fun e w' h => ⟨.bool true, h.1, And.intro rfl h.2⟩) ?_
  rintro v6 w6 ⟨rfl, h6⟩
  simp only [List.setIfInBounds_toArray, List.set_cons_succ, List.set_cons_zero]
  have hb6 : Below w3.heap.size w3 w6 := hb5.trans (h6.mono hb5.size)
  clear h6 hb5 HR5
  refine ⟨hb6, ?_⟩
  (apply reg_take 11 rfl rfl (by decide +kernel) rfl); (rintro w' h1; go_simp; rfl); exact hb6; simp only [List.setIfInBounds_toArray, List.set_cons_succ, List.set_cons_zero]
  refine reg_done (by decide +kernel) ?_
  have HB6 := Lib.hid hb6
  clear hb6
  go_upto_region 6 with (fail)
  have hS0 : Below w3.heap.size w3 w6.drew := HB6.out.drew
  refine reg_begin (fun w' => Below w3.heap.size w3 w') (by kernel_rfl) ?_
  (apply reg_take 0 rfl rfl (by decide +kernel) rfl); (rintro w' h1; go_simp; rfl); exact hS0; simp only [List.setIfInBounds_toArray, List.set_cons_succ, List.set_cons_zero]
  (apply reg_take 1 rfl rfl (by decide +kernel) rfl); (rintro w' h1; go_simp; rfl); exact hS0; simp only [List.setIfInBounds_toArray, List.set_cons_succ, List.set_cons_zero]
  (apply reg_take 3 rfl rfl (by decide +kernel) rfl); (rintro w' h1; go_simp; rfl); exact hS0; simp only [List.setIfInBounds_toArray, List.set_cons_succ, List.set_cons_zero]
  refine reg_take 4 (v := .slice ao A.length ac) rfl rfl (by decide +kernel) rfl (fun w' h => exec_load_cell rfl rfl Tryz.underlying22 rfl (HX3.out.below h).c0) hS0 ?_; simp only [List.setIfInBounds_toArray, List.set_cons_succ, List.set_cons_zero]
  (apply reg_take 5 rfl rfl (by decide +kernel) rfl); (rintro w' h1; go_simp; rfl); exact hS0; simp only [List.setIfInBounds_toArray, List.set_cons_succ, List.set_cons_zero]
  refine reg_take 6 (v := .slice bo B.length bc) rfl rfl (by decide +kernel) rfl (fun w' h => exec_load_cell rfl rfl Tryz.underlying22 rfl (HX3.out.below h).c1) hS0 ?_; simp only [List.setIfInBounds_toArray, List.set_cons_succ, List.set_cons_zero]
  (apply reg_take 7 rfl rfl (by decide +kernel) rfl); (rintro w' h1; go_simp; rfl); exact hS0; simp only [List.setIfInBounds_toArray, List.set_cons_succ, List.set_cons_zero]
  refine reg_take 8 (v := .slice io l.length ic) rfl rfl (by decide +kernel) rfl (fun w' h => exec_load_cell rfl rfl Tryz.underlying23 rfl (HX3.out.below h).c2) hS0 ?_; simp only [List.setIfInBounds_toArray, List.set_cons_succ, List.set_cons_zero]
  refine reg_call 2 rfl rfl (by decide +kernel) rfl (by kernel_rfl) (tally_any q _ p b cp rb (chunksM l) w6.drew (HSP.out _ hS0) HWF.out HSM.out (HTR.out _ hS0)) ?_
  rintro v7 w7 ⟨h4, h5⟩
  simp only [List.setIfInBounds_toArray, List.set_cons_succ, List.set_cons_zero]
  rw [HEE.out] at h5
  have hb4 : Below w3.heap.size w3 w7 := hS0.trans ((h4.below_of h5).mono hS0.size)
  have HR4 := Lib.hid (own_ints (tallyL_len _) h5)
  clear h4 h5 hS0
  refine ⟨hb4, ?_⟩
  refine reg_call 9 rfl rfl (by decide +kernel) rfl (by kernel_rfl) (HRT.out w7 (HB3.out.trans (hb4.mono HB3.out.size)) HGP.out) ?_
  rintro v8 w8 ⟨h4, h5⟩
  simp only [List.setIfInBounds_toArray, List.set_cons_succ, List.set_cons_zero]
  have hb45 := h4.below_of h5
  have hb5 : Below w3.heap.size w3 w8 := hb4.trans (hb45.mono hb4.size)
  have HR5 := Lib.hid (And.intro (IntsAt.below HR4.out hb45) (own_ints (tallyL_len _) h5))
  clear h4 h5 hb45 hb4 HR4
  refine ⟨hb5, ?_⟩
  refine reg_call 10 rfl rfl (by decide +kernel) rfl (R := fun v w' => v = .bool true ∧ Below w8.heap.size w8 w') (by kernel_rfl) ((same41_any v7 v8 _ _ w8 HR5.out.1 HR5.out.2 (by rw [tallyL_len]; decide)).mono fun e w' h => ⟨.bool true, by rw [h.1, decide_eq_true rfl], And.intro rfl h.2⟩) ?_
  rintro v9 w9 ⟨rfl, h6⟩
  simp only [List.setIfInBounds_toArray, List.set_cons_succ, List.set_cons_zero]
  have hb9 : Below w3.heap.size w3 w9 := hb5.trans (h6.mono hb5.size)
  clear h6 hb5 HR5
  refine ⟨hb9, ?_⟩
  (apply reg_take 11 rfl rfl (by decide +kernel) rfl); (rintro w' h1; go_simp; rfl); exact hb9; simp only [List.setIfInBounds_toArray, List.set_cons_succ, List.set_cons_zero]
  refine reg_done (by decide +kernel) ?_
  have HB9 := Lib.hid hb9
  clear hb9
  go_upto_region 7 with (fail)
  have hS0 : Below w3.heap.size w3 w9.drew := HB9.out.drew
  refine reg_begin (fun w' => Below w3.heap.size w3 w') (by kernel_rfl) ?_
  (apply reg_take 0 rfl rfl (by decide +kernel) rfl); (rintro w' h1; go_simp; rfl); exact hS0; simp only [List.setIfInBounds_toArray, List.set_cons_succ, List.set_cons_zero]
  (apply reg_take 2 rfl rfl (by decide +kernel) rfl); (rintro w' h1; go_simp; rfl); exact hS0; simp only [List.setIfInBounds_toArray, List.set_cons_succ, List.set_cons_zero]
  refine reg_take 3 (v := .slice io l.length ic) rfl rfl (by decide +kernel) rfl (fun w' h => exec_load_cell rfl rfl Tryz.underlying23 rfl (HX3.out.below h).c2) hS0 ?_; simp only [List.setIfInBounds_toArray, List.set_cons_succ, List.set_cons_zero]
  refine reg_call 1 rfl rfl (by decide +kernel) rfl (by kernel_rfl) (waiting_any p b cp rb (chunksM l) w9.drew (HTR.out _ hS0)) ?_
  rintro va w10 ⟨h4, h5⟩
  simp only [List.setIfInBounds_toArray, List.set_cons_succ, List.set_cons_zero]
  have hb4 : Below w3.heap.size w3 w10 := hS0.trans ((h4.below_of h5).mono hS0.size)
  have HR4 := Lib.hid (own_rows h5)
  clear h4 h5 hS0
  refine ⟨hb4, ?_⟩
  refine reg_call 4 rfl rfl (by decide +kernel) rfl (by kernel_rfl) (HRW.out w10 (HB3.out.trans (hb4.mono HB3.out.size)) HGP.out.1.2.2.1) ?_
  rintro vb w11 ⟨h4, h5⟩
  simp only [List.setIfInBounds_toArray, List.set_cons_succ, List.set_cons_zero]
  have hb45 := h4.below_of h5
  have hb5 : Below w3.heap.size w3 w11 := hb4.trans (hb45.mono hb4.size)
  have HR5 := Lib.hid (And.intro (HR4.out.below hb45) (own_rows h5))
  clear h4 h5 hb45 hb4 HR4
  refine ⟨hb5, ?_⟩
  refine reg_call 5 rfl rfl (by decide +kernel) rfl (R := fun v w' => v = .bool true ∧ Below w11.heap.size w11 w') (by kernel_rfl) ((sameDs_any va vb _ w11 HR5.out.1 HR5.out.2).mono fun e w' h => ⟨.bool true, h.1, And.intro rfl h.2⟩) ?_
  rintro vc w12 ⟨rfl, h6⟩
  simp only [List.setIfInBounds_toArray, List.set_cons_succ, List.set_cons_zero]
  have hb9 : Below w3.heap.size w3 w12 := hb5.trans (h6.mono hb5.size)
  clear h6 hb5 HR5
  refine ⟨hb9, ?_⟩
  (apply reg_take 6 rfl rfl (by decide +kernel) rfl); (rintro w' h1; go_simp; rfl); exact hb9; simp only [List.setIfInBounds_toArray, List.set_cons_succ, List.set_cons_zero]
  refine reg_done (by decide +kernel) ?_
  have HB12 := Lib.hid hb9
  clear hb9
  go_wp2
  go_ret
  exact ⟨rfl, HB3.out.trans (HB12.out.mono HB3.out.size)⟩
end Go.Proofs.YteikbikopgabjaaGreatDoor
