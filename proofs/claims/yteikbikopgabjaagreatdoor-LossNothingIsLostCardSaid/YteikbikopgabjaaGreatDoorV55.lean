import Derived.Test.YteikbikopgabjaaGreatDoorV54
/- Part 55 of a proof; the last part says what is proved. -/
namespace Go.Proofs.YteikbikopgabjaaGreatDoor
open Go.RowKit Go.Sha Go.Sl Go.GF Go.Vol Go.Loss
abbrev TIt1 : TypeId := 60
abbrev TIts : TypeId := 23
theorem info_it3 : (Tryz.prog.info? TIt1).map (fun i => (i.zero, i.size, i.bytes)) = some (some (.agg #[.int .u8 0, .bool false]), 2, 2) := by kernel_rfl
structure NoS (wb : World) (p b cap at_ : Nat) (rb : Nat → Nat) (l : List ItM) (i : Value) (wr : World) : Prop where
  st : ∃ (k : Nat) (kv : Go.Key.KV UK), k ≤ l.length ∧ i = .int .i64 (k : Int) ∧ Same wb wr ∧ Sat wr (tabS p b cap at_ rb (idxL (mvC k) l) kv * old wb) ∧ ∀ key : UK, 200 + k ≤ key.1.1 → Go.Key.lk kv key = none
structure NzS (w5 : World) (j : Value) (wr : World) : Prop where
  st : ∃ k : Nat, k ≤ 16 ∧ j = .int .i64 (k : Int) ∧ w5 = wr
structure NlS (wb : World) (p b cap at_ : Nat) (rb : Nat → Nat) (l : List ItM) (va : Value) (i : Value) (wr : World) : Prop where
  st : ∃ (k : Nat) (kv : Go.Key.KV UK), k ≤ l.length ∧ i = .int .i64 (k : Int) ∧ Same wb wr ∧ Sat wr (tabS p b cap at_ rb (idxL (lsC k) l) kv * (ownAt TIt1 2 va l.length ((idxL (mkI k) l).flatMap itE) * old wb))
set_option maxRecDepth 20000 in
set_option maxHeartbeats 8000000 in
theorem nothinglaw_any (va vb vi : Value) (A B : List ElC) (l : List ItM) (w : World) (hA : CntL w va A) (hB : CntL w vb B) (hca : CapOk va) (hcb : CapOk vb) (hI : ItL w vi l) (hK : TabK w) (hT : TabF w) :
    Calls Tryz.prog 5 #[.agg #[va, vb, vi]] w fun e w' => e = .returned (.bool true) ∧ Below w.heap.size w w' := by
  have HSA := Lib.hid (fun W (hb : Below w.heap.size w W) => sanity41_any W (hK.below hb) (hT.below hb))
  have HBD := Lib.hid (fun W (hb : Below w.heap.size w W) => build_any41 va vb vi A B l W (hA.below hb) (hB.below hb) (hI.below hb) (hK.below hb))
  have HB1 := Lib.hid (al_below w (.cells #[va, vb, vi] TIn41))
  have HX1 := Lib.hid (inBox_alloc w va vb vi)
  have HI := Lib.hid (fun W (h : Below w.heap.size w W) => RowsO.below hI h)
  have HRP := Lib.hid (fun l' v' W (hb : Below w.heap.size w W) (hI' : ItL W v' l') (hF : FewP A B l') => rreport_any va vb v' A B l' W (hA.below hb) (hB.below hb) hI' hF (hK.below hb))
  obtain ⟨ao, ac, rfl, -⟩ := id hA.row
  obtain ⟨bo, bc, rfl, -⟩ := id hB.row
  obtain ⟨io, ic, rfl, -⟩ := id hI
  clear hA hB hI hK hT hca hcb
  go_enter Tryz.func5, Tryz.ntmps5
  go_upto_region 1 with (fail)
  generalize w.alloc (.cells #[.slice ao A.length ac, .slice bo B.length bc, .slice io l.length ic] TIn41) = w1 at HB1 HX1 ⊢
  obtain ⟨g, hgq⟩ : ∃ g, g = w.heap.size := ⟨_, rfl⟩
  rw [← hgq] at HX1 ⊢
  have HGQ := Lib.hid hgq
  clear hgq
  go_upto_region 5 with (first
    | (go_at_call 9; refine (HSA.out w1 HB1.out).mono ?_; rintro e w2 ⟨rfl, h2⟩; have HW2 := Lib.hid (And.intro (HB1.out.trans (h2.mono HB1.out.size)) (HX1.out.below h2)); clear h2; have a0 := HW2.out.2.c0; have a1 := HW2.out.2.c1; have a2 := HW2.out.2.c2)
    | (go_at_call 10; refine (HBD.out w2 HW2.out.1).mono ?_; rintro e w3 h3; rcases h3.out with ⟨hgood, q, p, rfl, hbt⟩ | ⟨hng, rfl, h4⟩))
  rotate_left
  · have HB3 := Lib.hid (HW2.out.1.trans (h4.mono HW2.out.1.size))
    clear h3 h4 a0 a1 a2
    go_wp2
    go_ret
    exact ⟨rfl, HB3.out⟩
  obtain ⟨b, cap, at_, rb, kv0, wb, hbb, hsp, hsm, hst, hkey⟩ := hbt.at_
  have HXB := Lib.hid (HW2.out.2.below hbb)
  have HBB := Lib.hid (show Below w.heap.size w wb from HW2.out.1.trans (hbb.mono HW2.out.1.size))
  have HX := Lib.hid (fun W (h : Below wb.heap.size wb W) => HXB.out.below h)
  have HSP := Lib.hid (fun W (h : Below wb.heap.size wb W) => hsp.below h)
  have HGP := Lib.hid hgood
  have HWF := Lib.hid (spaceC_wf hgood.2)
  have HSM := Lib.hid (small_space hgood)
  have HOK := Lib.hid (report_ok (l := idxL (mkI l.length) l) hgood.2)
  have HLE := Lib.hid (lossR_eq (L := idxL (lsC l.length) l) (l := idxL (mkI l.length) l) hgood.2 (lost_ls l))
  have H40 := Lib.hid hgood.1.2.2.1
  obtain ⟨S, hS⟩ : ∃ S, S = spaceC (A.map Prod.fst) (B.map Prod.fst) := ⟨_, rfl⟩
  rw [← hS] at HSP HWF HSM HLE
  have HONE := Lib.hid (show ∀ u ∈ l.flatMap itE, u.oneCell' = true from fun u hu => by
    obtain ⟨y, _, hy⟩ := List.mem_flatMap.1 hu
    unfold itE at hy
    simp at hy
    rcases hy with rfl | rfl <;> rfl)
  have H0 := Lib.hid (show NoS wb p b cap at_ rb l (.int .i64 0) w3 from ⟨0, kv0, Nat.zero_le _, rfl, hsm, by rw [mv_zero]; exact hst, fun key hk => hkey key (by have := hgood.1.2.2.1; omega)⟩)
  clear h3 hgood hbt hsp hbb a0 a1 a2 HW2 HB1 HX1 HSA HBD hS hsm hst hkey HXB
  go_upto_region 6 with (fail)
  go_loopw [7] (fun i wr => NoS wb p b cap at_ rb l i wr) (fun i _ => l.length - (intOf i).toNat)
  case atStart => exact H0.out
  case round =>
    clear H0
    obtain ⟨k, kv, hk, rfl, hsm, hst, hkey⟩ := hrel.st
    clear hrel
    have hk40 : (k : Int) ≤ 40 := by have := H40.out; omega
    have hb := hsm.below_of hst
    have x2 := (HX.out wr hb).c2
    have HS := Lib.hid (And.intro hsm (And.intro hst hkey))
    have HBW := Lib.hid hb
    clear hsm hst hkey hb
    by_cases hin : k < l.length
    · have hid : decide ((k : Int) < (l.length : Int)) = true := decide_eq_true (by omega)
      have hwk : IntKind.i64.wrap ((k : Int) + 1) = (k : Int) + 1 := IntWalk.i64_in _ (by omega)
      have hw2 : IntKind.i64.wrap (200 + (k : Int)) = 200 + (k : Int) := IntWalk.i64_in _ (by omega)
      obtain ⟨x, hx⟩ : ∃ x, l[k]? = some x := ⟨_, List.getElem?_eq_getElem hin⟩
      have HMS := Lib.hid (mv_set hx)
      have hmv := move_any p b cap at_ rb (idxL (mvC k) l) kv k (mvC k k x) (rowK (200 + k)) (idxL_at hx) (old wb) wr HS.out.2.1 (by rw [idxL_len]; have := H40.out; omega) (HS.out.2.2 _ (by rw [rowK_row (by omega)]; exact Nat.le_refl _))
      rw [rowK_v (by omega), show ((200 + k : Nat) : Int) = 200 + (k : Int) by push_cast; rfl, show (mvC k k x).fill = x.1 by unfold mvC; rw [if_neg (by omega)]; rfl, HMS.out] at hmv
      have HMV := Lib.hid hmv
      have HKY := Lib.hid (show ∀ key : UK, 200 + (k + 1) ≤ key.1.1 → Go.Key.lk (Go.Key.upd (leftM kv (mvC k k x)) (rowK (200 + k)) (.int .i64 ((k : Int) + 1))) key = none from fun key hkr => by
        rw [Go.Key.lk_upd, if_neg (fun e => by rw [e, rowK_row (by omega)] at hkr; omega)]
        have h0 := HS.out.2.2 key (by omega)
        unfold leftM
        split
        · exact h0
        · exact lk_del_none _ _ h0)
      clear hmv hx
      go_wp2_with (go_at_call 23; refine HMV.out.mono ?_; rintro e w4 ⟨rfl, h4, h5⟩)
      go_roundw
      case rel => exact ⟨⟨k + 1, _, hin, by push_cast; rfl, HS.out.1.trans h4, h5, HKY.out⟩⟩
      case measure => simp only [intOf]; omega
    · have hke : k = l.length := by omega
      have hid : decide ((k : Int) < (l.length : Int)) = false := decide_eq_false (by omega)
      have hst := HS.out.2.1
      rw [hke, mv_all] at hst
      have HST := Lib.hid (And.intro HS.out.1 hst)
      have HTR := Lib.hid (fun W (h : Below wr.heap.size wr W) => (tab_read hst (by rw [idxL_len]; have := H40.out; omega)).below h)
      have HLT := Lib.hid (fun W (h : Below wr.heap.size wr W) => tally_any q S p b cap rb (idxL (lsC 0) l) W (HSP.out W (HBW.out.trans (h.mono HBW.out.size))) HWF.out HSM.out (HTR.out W h))
      have HLR := Lib.hid (fun W (h : Below wr.heap.size wr W) => report_any q S p b cap rb (idxL (lsC 0) l) W (HSP.out W (HBW.out.trans (h.mono HBW.out.size))) HWF.out HSM.out (HTR.out W h))
      have HLW := Lib.hid (fun W (h : Below wr.heap.size wr W) => waiting_any p b cap rb (idxL (lsC 0) l) W (HTR.out W h))
      have HE0 := Lib.hid (each_none (S := S) (lost_mv l))
      have HW0 := Lib.hid (wait_mv l)
      have HR0 := Lib.hid (show lossR S (idxL (lsC 0) l) = [] by unfold lossR; rw [HE0.out]; rfl)
      rw [HE0.out] at HLT
      rw [HR0.out] at HLR
      rw [HW0.out] at HLW
      clear hst hke HS
      go_wp2_with (go_at_call 15; refine (HLT.out wr (Below.refl _ _)).mono ?_; rintro e w5 ⟨v9, rfl, h4, h5⟩; rw [tallyL_nil] at h5; have HT5 := Lib.hid (And.intro h4 h5); obtain ⟨tO, tC, rfl⟩ := ownAt_slice h5; clear h4 h5)
      have HB5 := Lib.hid (HT5.out.1.below_of HT5.out.2)
      go_loopw [10] (fun j wr' => NzS w5 j wr') (fun j _ => 16 - (intOf j).toNat)
      case atStart => exact ⟨⟨0, by omega, rfl, rfl⟩⟩
      case round =>
        obtain ⟨j, hj, rfl, rfl⟩ := hrel.st
        clear hrel
        by_cases hjn : j < 16
        · have hjd : decide ((j : Int) < 16) = true := decide_eq_true (by omega)
          have hwj : IntKind.i64.wrap ((j : Int) + 1) = (j : Int) + 1 := IntWalk.i64_in _ (by omega)
          obtain ⟨gt, ct, e, hc⟩ := ownAt_cells HT5.out.2 (by omega)
          cases e
          have c1 := hc j (.int .i64 0) (by rw [List.getElem?_replicate, if_pos hjn])
          clear hc
          go_wp2
          go_roundw
          case rel => exact ⟨⟨j + 1, by omega, by push_cast; rfl, rfl⟩⟩
          case measure => simp only [intOf]; omega
        · have hje : j = 16 := by omega
          have hjd : decide ((j : Int) < 16) = false := decide_eq_false (by omega)
          subst hje
          obtain ⟨i0, hi, hz0, hz1, hz2⟩ := info_parts info_it3
          go_wp2_with (first
            | (go_at_call 12; refine (HLR.out w5 HB5.out).mono ?_; rintro e w6 ⟨v6, rfl, h4, h5⟩; unfold ownG at h5; have HB6 := Lib.hid (HB5.out.trans ((h4.below_of h5).mono HB5.out.size)); obtain ⟨rO, rC, rfl⟩ := ownAt_slice h5; clear h4 h5)
            | (go_at_call 18; refine (HLW.out w6 HB6.out).mono ?_; rintro e w7 ⟨v7, rfl, h4, h5⟩; unfold ownD at h5; have HB7 := Lib.hid (HB6.out.trans ((h4.below_of h5).mono HB6.out.size)); obtain ⟨sO, sC, rfl⟩ := ownAt_slice h5; clear h4 h5; have x7 := (HX.out w7 (HBW.out.trans (HB7.out.mono HBW.out.size))).c2; have g7 := (HX.out w7 (HBW.out.trans (HB7.out.mono HBW.out.size))).lt; have HE7 := Lib.hid (show Same wb (w7.alloc (.cells #[] TIt1)) ∧ Sat (w7.alloc (.cells #[] TIt1)) (ownAt TIt1 2 (.slice (some ⟨w7.heap.size, 0, none⟩) 0 0) 0 [] * (tabS p b cap at_ rb (idxL (lsC 0) l) kv * old wb)) from ⟨(HST.out.1.below HB7.out).alloc _, ownAt_iff.2 (.inr ⟨_, _, _, ⟨rfl, Nat.le_refl _, by unfold maxLen; omega, by simp, by simp, by simp⟩, (HST.out.2.below HB7.out).alloc _⟩)⟩); have HI7 := Lib.hid (HI.out (w7.alloc (.cells #[] TIt1)) (HBB.out.trans (((HBW.out.trans (HB7.out.mono HBW.out.size)).trans ((al_below w7 (.cells #[] TIt1)).mono (HBW.out.trans (HB7.out.mono HBW.out.size)).size)).mono HBB.out.size))))
            | (at_builtin; refine wpList_append_rO rfl _ _ TIts TIt1 rfl i0 _ Tryz.underlying23 hi hz0 hz1 hz2 rfl HE7.out.2 (l.flatMap itE) rfl rfl HI7.out (Go.Vol.flat_len itE_len l) HONE.out (by have := H40.out; unfold maxLen; omega) (by have := H40.out; omega) ?_; intro v11 w8 h8; rw [List.nil_append, Nat.zero_add] at h8; have HS8 := Lib.hid (And.intro (HE7.out.1.trans h8.out.1) h8.out.2); clear h8))
          have H1 := Lib.hid (show NlS wb p b cap at_ rb l v11 (.int .i64 0) w8 from ⟨0, kv, Nat.zero_le _, rfl, HS8.out.1, by rw [mk_zero]; exact HS8.out.2.perm (by ac_rfl)⟩)
          clear x2 HLR HLW HLT HTR HE7 HI7 hid hjd
          obtain ⟨vO, vC, rfl⟩ := ownAt_slice HS8.out.2
          clear HS8
          go_loopw [12] (fun i wr => NlS wb p b cap at_ rb l (.slice vO l.length vC) i wr) (fun i _ => l.length - (intOf i).toNat)
          case atStart => exact H1.out
          case round =>
            clear H1 x7 g7
            obtain ⟨m, kv2, hm, rfl, hsm, hst⟩ := hrel.st
            clear hrel
            have hm40 : (m : Int) ≤ 40 := by have := H40.out; omega
            have HS := Lib.hid (And.intro hsm hst)
            clear hsm hst
            by_cases hml : m < l.length
            · have hmd : decide ((m : Int) < (l.length : Int)) = true := decide_eq_true (by omega)
              have hwm : IntKind.i64.wrap ((m : Int) + 1) = (m : Int) + 1 := IntWalk.i64_in _ (by omega)
              obtain ⟨x, hx⟩ : ∃ x, l[m]? = some x := ⟨_, List.getElem?_eq_getElem hml⟩
              have hlo := lose_any p b cap at_ rb (idxL (lsC m) l) kv2 m (lsC m m x) (idxL_at hx) _ wr HS.out.2 (by rw [idxL_len]; have := H40.out; omega)
              rw [show (lsC m m x).fill = x.1 by unfold lsC; rw [if_neg (by omega)], ls_set hx] at hlo
              have HLO := Lib.hid hlo
              have HIS := Lib.hid (itE_set m l hx)
              clear hlo hx
              go_upto_region 24 with (go_at_call 24; refine HLO.out.mono ?_; rintro e w10 ⟨rfl, h4, h5⟩; have HS10 := Lib.hid (And.intro (HS.out.1.trans h4) h5); clear h4 h5)
              have hq := HS10.out.2.perm (show _ = ownAt TIt1 2 (.slice vO l.length vC) l.length ((idxL (mkI m) l).flatMap itE) * (tabS p b cap at_ rb (idxL (lsC (m + 1)) l) (leftM kv2 (lsC m m x)) * old wb) by ac_rfl)
              obtain ⟨gt, ct, e, -⟩ := ownAt_cells hq (by omega)
              cases e
              obtain ⟨⟨y, -, c1⟩, f1, h9⟩ := ownAt_setK hq (j := m * 2 + 1) (by omega) (.bool true)
              rw [HIS.out] at h9
              have HE := Lib.hid (show NlS wb p b cap at_ rb l (.slice (some ⟨gt, 0, none⟩) l.length vC) (.int .i64 ((m : Int) + 1)) (w10.setCell ⟨gt, m * 2 + 1, none⟩ (.bool true)) from ⟨m + 1, _, hml, by push_cast; rfl, HS10.out.1.setCell _ _, h9.perm (by ac_rfl)⟩)
              clear hq h9
              go_wp2
              go_roundw
              case rel => exact HE.out
              case measure => simp only [intOf]; omega
            · have hme : m = l.length := by omega
              have hmd : decide ((m : Int) < (l.length : Int)) = false := decide_eq_false (by omega)
              have hst := HS.out.2
              rw [hme] at hst
              have HB9 := Lib.hid (HS.out.1.below_of (hst.perm (show _ = (tabS p b cap at_ rb (idxL (lsC l.length) l) kv2 * ownAt TIt1 2 (.slice vO l.length vC) l.length ((idxL (mkI l.length) l).flatMap itE)) * old wb by ac_rfl)))
              have HTR9 := Lib.hid (fun W (h : Below wr.heap.size wr W) => (tab_read hst (by rw [idxL_len]; have := H40.out; omega)).below h)
              have HI9 := Lib.hid (show RowsO wr (.slice vO l.length vC) (idxL (mkI l.length) l).length ((idxL (mkI l.length) l).flatMap itE) by rw [idxL_len]; exact own_rows (hst.perm (show _ = ownAt TIt1 2 (.slice vO l.length vC) l.length ((idxL (mkI l.length) l).flatMap itE) * (tabS p b cap at_ rb (idxL (lsC l.length) l) kv2 * old wb) by ac_rfl)))
              have HF9 := Lib.hid (show FewP A B (idxL (mkI l.length) l) from ⟨HGP.out.1.1, HGP.out.1.2.1, by rw [idxL_len]; exact HGP.out.1.2.2.1, HGP.out.1.2.2.2.1, HGP.out.1.2.2.2.2⟩)
              have HX9 := Lib.hid (HX.out wr HB9.out)
              clear hst hme HS
              go_upto_region 25 with (fail)
              all_goals try contradiction
              have hS0 : Below wr.heap.size wr wr.drew := (Below.refl _ _).drew
              refine reg_begin (fun w' => Below wr.heap.size wr w') (by kernel_rfl) ?_
              (apply reg_take 0 rfl rfl (by decide +kernel) rfl); (rintro w' h1; go_simp; rfl); exact hS0; simp only [List.setIfInBounds_toArray, List.set_cons_succ, List.set_cons_zero]
              (apply reg_take 1 rfl rfl (by decide +kernel) rfl); (rintro w' h1; go_simp; rfl); exact hS0; simp only [List.setIfInBounds_toArray, List.set_cons_succ, List.set_cons_zero]
              (apply reg_take 3 rfl rfl (by decide +kernel) rfl); (rintro w' h1; go_simp; rfl); exact hS0; simp only [List.setIfInBounds_toArray, List.set_cons_succ, List.set_cons_zero]
              refine reg_take 4 (v := .slice ao A.length ac) rfl rfl (by decide +kernel) rfl (fun w' h => exec_load_cell rfl rfl Tryz.underlying22 rfl (HX9.out.below h).c0) hS0 ?_; simp only [List.setIfInBounds_toArray, List.set_cons_succ, List.set_cons_zero]
              (apply reg_take 5 rfl rfl (by decide +kernel) rfl); (rintro w' h1; go_simp; rfl); exact hS0; simp only [List.setIfInBounds_toArray, List.set_cons_succ, List.set_cons_zero]
              refine reg_take 6 (v := .slice bo B.length bc) rfl rfl (by decide +kernel) rfl (fun w' h => exec_load_cell rfl rfl Tryz.underlying22 rfl (HX9.out.below h).c1) hS0 ?_; simp only [List.setIfInBounds_toArray, List.set_cons_succ, List.set_cons_zero]
              (apply reg_take 7 rfl rfl (by decide +kernel) rfl); (rintro w' h1; go_simp; rfl); exact hS0; simp only [List.setIfInBounds_toArray, List.set_cons_succ, List.set_cons_zero]
              refine reg_call 2 rfl rfl (by decide +kernel) rfl (by kernel_rfl) (report_any q _ p b cap rb (idxL (lsC l.length) l) wr.drew (HSP.out _ (HB9.out.drew)) HWF.out HSM.out (HTR9.out _ hS0)) ?_
              rintro v4 w4 ⟨h4, h5⟩
              simp only [List.setIfInBounds_toArray, List.set_cons_succ, List.set_cons_zero]
              rw [HLE.out] at h5
              have hb4 : Below wr.heap.size wr w4 := hS0.trans ((h4.below_of h5).mono hS0.size)
              have HR4 := Lib.hid (own_rows h5)
              clear h4 h5 hS0
              refine ⟨hb4, ?_⟩
              refine reg_call 8 rfl rfl (by decide +kernel) rfl (by kernel_rfl) (HRP.out (idxL (mkI l.length) l) (.slice vO l.length vC) w4 (HBB.out.trans ((HB9.out.trans (hb4.mono HB9.out.size)).mono HBB.out.size)) (HI9.out.below hb4) HF9.out) ?_
              rintro v5 w5 ⟨h4, h5⟩
              simp only [List.setIfInBounds_toArray, List.set_cons_succ, List.set_cons_zero]
              have hb45 := h4.below_of h5
              have hb5 : Below wr.heap.size wr w5 := hb4.trans (hb45.mono hb4.size)
              have HR5 := Lib.hid (And.intro (HR4.out.below hb45) (own_rows h5))
              clear h4 h5 hb45 hb4 HR4
              refine ⟨hb5, ?_⟩
              refine reg_call 9 rfl rfl (by decide +kernel) rfl (R := fun v w' => v = .bool true ∧ Below w5.heap.size w5 w') (by kernel_rfl) ((sameG_any v4 v5 _ w5 HR5.out.1 HR5.out.2 HOK.out).mono fun e w' h => ⟨.bool true, h.1, And.intro rfl h.2⟩) ?_
              rintro v6 w6 ⟨rfl, h6⟩
              simp only [List.setIfInBounds_toArray, List.set_cons_succ, List.set_cons_zero]
              have hb6 : Below wr.heap.size wr w6 := hb5.trans (h6.mono hb5.size)
              clear h6 hb5 HR5
              refine ⟨hb6, ?_⟩
              (apply reg_take 10 rfl rfl (by decide +kernel) rfl); (rintro w' h1; go_simp; rfl); exact hb6; simp only [List.setIfInBounds_toArray, List.set_cons_succ, List.set_cons_zero]
              refine reg_done (by decide +kernel) ?_
              have HB10 := Lib.hid (HBB.out.trans ((HB9.out.trans (hb6.mono HB9.out.size)).mono HBB.out.size))
              clear hb6
              go_wp2
              go_ret
              exact ⟨rfl, HB10.out⟩
end Go.Proofs.YteikbikopgabjaaGreatDoor
