import Derived.Test.YteikbikopgabjaaGreatDoorH52
import Derived.Test.YteikbikopgabjaaGreatDoorH47
/- LossHeals, as a tied card: whatever the input, the law answers true and leaves its arguments alone; the tables that it reads are what the program's text lays (tied; over a pruned copy of the project). -/
section
namespace Go.Proofs.YteikbikopgabjaaGreatDoor
open Go.RowKit Go.Sha Go.Sl Go.GF Go.Vol Go.Loss
abbrev TIt2 : TypeId := 60
abbrev TIts2 : TypeId := 23
theorem info_it4 : (Tryz.prog.info? TIt2).map (fun i => (i.zero, i.size, i.bytes)) = some (some (.agg #[.int .u8 0, .bool false]), 2, 2) := by kernel_rfl
structure HlS (w5 : World) (n : Nat) (j : Value) (wr : World) : Prop where
 st : ∃ k : Nat, k ≤ n ∧ j = .int .i64 (k : Int) ∧ w5 = wr
set_option maxRecDepth 20000 in
set_option maxHeartbeats 8000000 in
theorem healslaw_any (va vb vi : Value) (A B : List ElC) (l : List ItM) (w : World) (hA : CntL w va A) (hB : CntL w vb B) (hca : CapOk va) (hcb : CapOk vb) (hI : ItL w vi l) (hK : TabK w) (hT : TabF w) (hD : TabD w) (hS : TabS w) (m : Nat) (hm : m ≤ 255) :
  Calls Tryz.prog 8 #[.agg #[va, vb, vi], .int .u8 (m : Int)] w fun e w' => e = .returned (.bool true) ∧ Below w.heap.size w w' := by
 have HSA := Lib.hid (fun W (hb : Below w.heap.size w W) => sanity41_any W (hK.below hb) (hT.below hb))
 have HBD := Lib.hid (fun W (hb : Below w.heap.size w W) => build_any41 va vb vi A B l W (hA.below hb) (hB.below hb) (hI.below hb) (hK.below hb))
 have HB1 := Lib.hid (al_below w (.cells #[va, vb, vi] TIn41))
 have HX1 := Lib.hid (inBox_alloc w va vb vi)
 have HI := Lib.hid (fun W (h : Below w.heap.size w W) => RowsO.below hI h)
 have HTD := Lib.hid (fun W (h : Below w.heap.size w W) => And.intro (hD.below h) (hS.below h))
 have HRP := Lib.hid (fun l' v' W (hb : Below w.heap.size w W) (hI' : ItL W v' l') (hF : FewP A B l') => rreport_any va vb v' A B l' W (hA.below hb) (hB.below hb) hI' hF (hK.below hb))
 obtain ⟨ao, ac, rfl, -⟩ := id hA.row
 obtain ⟨bo, bc, rfl, -⟩ := id hB.row
 obtain ⟨io, ic, rfl, -⟩ := id hI
 clear hA hB hI hK hT hca hcb hD hS
 go_enter Tryz.func8, Tryz.ntmps8
 go_upto_region 1 with (fail)
 generalize w.alloc (.cells #[.slice ao A.length ac, .slice bo B.length bc, .slice io l.length ic] TIn41) = w1 at HB1 HX1 ⊢
 obtain ⟨g, hgq⟩ : ∃ g, g = w.heap.size := ⟨_, rfl⟩
 rw [← hgq] at HX1 ⊢
 have HGQ := Lib.hid hgq
 clear hgq
 go_upto_region 3 with (first
  | (go_at_call 9; refine (HSA.out w1 HB1.out).mono ?_; rintro e w2 ⟨rfl, h2⟩; have HW2 := Lib.hid (And.intro (HB1.out.trans (h2.mono HB1.out.size)) (HX1.out.below h2)); clear h2; have a0 := HW2.out.2.c0; have a1 := HW2.out.2.c1; have a2 := HW2.out.2.c2)
  | (go_at_call 10; refine (HBD.out w2 HW2.out.1).mono ?_; rintro e w3 h3; rcases h3.out with ⟨hgood, q, p, rfl, hbt⟩ | ⟨hng, rfl, h4⟩))
 rotate_left
 ·have HB3 := Lib.hid (HW2.out.1.trans (h4.mono HW2.out.1.size))
  clear h3 h4 a0 a1 a2
  go_wp2
  go_ret
  exact ⟨rfl, HB3.out⟩
 obtain ⟨b, cap, at_, rb, kv, wb, hbb, hsp, hsm, hst, hkey⟩ := hbt.at_
 have HXB := Lib.hid (HW2.out.2.below hbb)
 have HBB := Lib.hid (show Below w.heap.size w wb from HW2.out.1.trans (hbb.mono HW2.out.1.size))
 have HX := Lib.hid (fun W (h : Below wb.heap.size wb W) => HXB.out.below h)
 have HSP := Lib.hid (fun W (h : Below wb.heap.size wb W) => hsp.below h)
 have HGP := Lib.hid hgood
 have HWF := Lib.hid (spaceC_wf hgood.2)
 have HSM := Lib.hid (small_space hgood)
 have H40 := Lib.hid hgood.1.2.2.1
 have HVS := Lib.hid hgood.2
 have HST := Lib.hid (And.intro hsm hst)
 have HKY := Lib.hid (hkey hundred (by have := hgood.1.2.2.1; show _ ≤ 100; omega))
 have hb3 := hsm.below_of hst
 have HB3 := Lib.hid hb3
 have HT3 := Lib.hid (HTD.out w3 (HBB.out.trans (hb3.mono HBB.out.size)))
 have HBW := Lib.hid (HBB.out.trans (hb3.mono HBB.out.size))
 have HTR := Lib.hid (fun W (h : Below w3.heap.size w3 W) => (tab_read hst (by rw [chunksM_len]; have := hgood.1.2.2.1; omega)).below h)
 have x2 := (HX.out w3 hb3).c2
 clear h3 hgood hbt hsp hbb a0 a1 a2 HW2 HB1 HX1 HSA HBD hsm hst hkey HXB hb3
 by_cases hl0 : l.length = 0
 ·have heq : ((l.length : Int) == 0) = true := by simp [hl0]
  clear hl0
  go_wp2
  go_ret
  exact ⟨rfl, HBW.out⟩
 have heq : ((l.length : Int) == 0) = false := beq_eq_false_iff_ne.2 (by omega)
 have hpos : 0 < l.length := by omega
 have hl40 : (l.length : Int) ≤ 40 := by have := H40.out; omega
 obtain ⟨k, hk⟩ : ∃ k, k = m % l.length := ⟨_, rfl⟩
 have hkl : k < l.length := by rw [hk]; exact Nat.mod_lt _ hpos
 have hwm : IntKind.i64.wrap (m : Int) = (m : Int) := IntWalk.i64_in _ (by omega)
 have HRM := Lib.hid (fun W => run_rem_nat (P := Tryz.prog) 3 m l.length hpos W)
 rw [← hk] at HRM
 clear hk hl0
 have hwk : IntKind.i64.wrap ((k : Int) + 1) = (k : Int) + 1 := IntWalk.i64_in _ (by omega)
 obtain ⟨⟨x, lost⟩, hx⟩ : ∃ x, l[k]? = some x := ⟨_, List.getElem?_eq_getElem hkl⟩
 obtain ⟨ib, ioff, rfl, hib, i1, i2⟩ := it_cells (HI.out w3 HBW.out) hx
 dsimp only at i1 i2
 obtain ⟨ti41, hti41, htis41⟩ := Option.map_eq_some_iff.1 (show (Tryz.prog.info? TIt2).map (·.size) = some 2 from by kernel_rfl)
 go_upto_region 5 with (fail)
 refine wp_region_lit ?_
 (apply wpList_runG rfl); (go_simp; first | rfl | exact ⟨rfl, rfl⟩); simp only [Act.put, zq1, zq2, zq3]
 (apply wpList_runG rfl); (go_simp; first | rfl | exact ⟨rfl, rfl⟩); simp only [Act.put, zq1, zq2, zq3]
 (apply wpList_runG rfl); (go_simp; first | rfl | exact ⟨rfl, rfl⟩); simp only [Act.put, zq1, zq2, zq3]
 (apply wpList_runG rfl); (go_simp; first | rfl | exact ⟨rfl, rfl⟩); simp only [Act.put, zq1, zq2, zq3]
 (apply wpList_runG rfl); (go_simp; first | rfl | exact ⟨rfl, rfl⟩); simp only [Act.put, zq1, zq2, zq3]
 refine wpList_runG (v := .int .i64 (k : Int)) rfl (exec_binop rfl rfl rfl rfl (HRM.out w3)) ?_; simp only [Act.put, zq1, zq2, zq3]
 (apply wpList_runG rfl); (go_simp; first | rfl | exact ⟨rfl, rfl⟩); simp only [Act.put, zq1, zq2, zq3]
 refine wpList_nil ?_
 clear HRM hwm
 cases hlo : lost with
 | false =>
  rw [hlo] at i2
  clear hx i1
  go_wp2
  go_ret
  exact ⟨rfl, HBW.out⟩
 | true =>
  rw [hlo] at i2
  subst hlo
  have HU := Lib.hid (unit_any x true w3)
  have hld := load_item i1 i2
  unfold itemA at HU hld
  have hkc := chunksM_at hx
  have HHM := Lib.hid (heal_match (chunksM l) (chI k (x, true)) ⟨x, false, hundred⟩ rfl rfl hkc)
  rw [show (chI k (x, true)).fill = x from rfl] at HHM
  have HLC := Lib.hid (heal_lostC l hx ⟨x, false, hundred⟩ rfl)
  have HIS := Lib.hid (itE_set1 k l hx)
  have hmv := move_any p b cap at_ rb (chunksM l) kv k (chI k (x, true)) hundred hkc (old wb)
  rw [hundred_v, show (chI k (x, true)).fill = x from rfl] at hmv
  have HMV := Lib.hid (fun W hS => hmv W hS (by rw [chunksM_len]; have := H40.out; omega) HKY.out)
  have HOK := Lib.hid (report_ok (l := l.set k (x, false)) HVS.out)
  have HLE := Lib.hid (lossR_eq (L := (chunksM l).set k ⟨x, false, hundred⟩) (l := l.set k (x, false)) HVS.out HLC.out)
  obtain ⟨S, hS⟩ : ∃ S, S = spaceC (A.map Prod.fst) (B.map Prod.fst) := ⟨_, rfl⟩
  rw [← hS] at HSP HWF HSM HLE
  have HL2 := Lib.hid (show ((chunksM l).set k ⟨x, false, hundred⟩).length ≤ 40 by rw [List.length_set, chunksM_len]; exact H40.out)
  have HM1 := Lib.hid (match_any p b cap rb (chunksM l) (unitL x) (by rw [unitL_len]; omega))
  have HM2 := Lib.hid (match_any p b cap rb ((chunksM l).set k ⟨x, false, hundred⟩) (unitL x) (by rw [unitL_len]; omega))
  have HLB := Lib.hid (show (matchP (chunksM l) (unitL x)).length ≤ 40 from Nat.le_trans (matchP_len _ _) (by rw [chunksM_len]; exact H40.out))
  obtain ⟨L2, hL2⟩ : ∃ L2, L2 = (chunksM l).set k ⟨x, false, hundred⟩ := ⟨_, rfl⟩
  rw [← hL2] at HHM HMV HLE HL2 HM2
  obtain ⟨Mb, hMb⟩ : ∃ M, M = matchP (chunksM l) (unitL x) := ⟨_, rfl⟩
  rw [← hMb] at HHM HM1 HLB
  obtain ⟨Ma, hMa⟩ : ∃ M, M = matchP L2 (unitL x) := ⟨_, rfl⟩
  rw [← hMa] at HHM HM2
  obtain ⟨us, hus⟩ : ∃ us, us = strL (unitL x) := ⟨_, rfl⟩
  rw [← hus] at HU HM1 HM2
  have HHL := Lib.hid HHM.out.1
  have HHN := Lib.hid HHM.out.2
  clear hS hL2 hMb hMa hus hkc hmv HHM HLC HKY hib
  have hcmp : ((Ma.length : Int) != (Mb.length : Int) - 1) = false := by have := HHL.out; simp; omega
  have hwmb : IntKind.i64.wrap ((Mb.length : Int) - 1) = (Mb.length : Int) - 1 := IntWalk.i64_in _ (by have := HLB.out; omega)
  obtain ⟨i0, hi, hz0, hz1, hz2⟩ := info_parts info_it4
  have HONE := Lib.hid (show ∀ u ∈ l.flatMap itE, u.oneCell' = true from fun u hu => by
   obtain ⟨y, _, hy⟩ := List.mem_flatMap.1 hu
   unfold itE at hy
   simp at hy
   rcases hy with rfl | rfl <;> rfl)
  go_upto_region 10 with (first
   | (go_at_call 29; refine HU.out.mono ?_; rintro e w4 ⟨rfl, h4⟩; have HB4 := Lib.hid h4; clear h4; have HT4 := Lib.hid (HTD.out w4 (HBW.out.trans (HB4.out.mono HBW.out.size))))
   | (go_at_call 26; refine (HM1.out w4 (HTR.out w4 HB4.out) HT4.out.1 HT4.out.2).mono ?_; rintro e w5 ⟨v5, rfl, h4, h5⟩; have HB5 := Lib.hid (HB4.out.trans ((h4.below_of h5).mono HB4.out.size)); obtain ⟨bO, bC, rfl⟩ := ownAt_slice h5; clear h4 h5))
  clear i1 i2 x2 hld
  have HS5 := Lib.hid (And.intro (HST.out.1.below HB5.out) (HST.out.2.below HB5.out))
  go_upto_region 11 with (first
   | (go_at_call 23; refine (HMV.out w5 HS5.out.2).mono ?_; rintro e w6 ⟨rfl, h4, h5⟩; have HS6 := Lib.hid (And.intro (HS5.out.1.trans h4) h5); clear h4 h5))
  have HB6 := Lib.hid (HS6.out.1.below_of HS6.out.2)
  have HBW6 := Lib.hid (HBB.out.trans (HB6.out.mono HBB.out.size))
  have HT6 := Lib.hid (HTD.out w6 HBW6.out)
  have HTR6 := Lib.hid (fun W (h : Below w6.heap.size w6 W) => (tab_read HS6.out.2 (by have := HL2.out; omega)).below h)
  clear HT4 HT3 HTR HM1 HMV HU HS5 HB5 HB4
  go_upto_region 12 with (first
   | (go_at_call 26; refine (HM2.out w6 (HTR6.out w6 (Below.refl _ _)) HT6.out.1 HT6.out.2).mono ?_; rintro e w7 ⟨v7, rfl, h4, h5⟩; have HB7 := Lib.hid (h4.below_of h5); have HS7 := Lib.hid (And.intro h4 h5); obtain ⟨aO, aC, rfl⟩ := ownAt_slice h5; clear h4 h5))
  have HBW7 := Lib.hid (HBW6.out.trans (HB7.out.mono HBW6.out.size))
  have HX7 := Lib.hid (HX.out w7 (HB6.out.trans (HB7.out.mono HB6.out.size)))
  have x7 := HX7.out.c2
  have g7 := HX7.out.lt
  have HE7 := Lib.hid (show Same w6 (w7.alloc (.cells #[] TIt2)) ∧ Sat (w7.alloc (.cells #[] TIt2)) (ownAt TIt2 2 (.slice (some ⟨w7.heap.size, 0, none⟩) 0 0) 0 [] * (ownAt TI 1 (.slice aO Ma.length aC) Ma.length (intsV Ma) * old w6)) from ⟨HS7.out.1.alloc _, ownAt_iff.2 (.inr ⟨_, _, _, ⟨rfl, Nat.le_refl _, by unfold maxLen; omega, by simp, by simp, by simp⟩, HS7.out.2.alloc _⟩)⟩)
  have HI7 := Lib.hid (HI.out (w7.alloc (.cells #[] TIt2)) (HBW7.out.trans ((al_below w7 (.cells #[] TIt2)).mono HBW7.out.size)))
  go_upto_region 13 with (first
   | (at_builtin; refine wpList_append_rO rfl _ _ TIts2 TIt2 rfl i0 _ Tryz.underlying23 hi hz0 hz1 hz2 rfl HE7.out.2 (l.flatMap itE) rfl rfl HI7.out (Go.Vol.flat_len itE_len l) HONE.out (by have := H40.out; unfold maxLen; omega) (by have := H40.out; omega) ?_; intro v11 w8 h8; rw [List.nil_append, Nat.zero_add] at h8; have HS8 := Lib.hid (And.intro (HE7.out.1.trans h8.out.1) h8.out.2); clear h8))
  obtain ⟨vO, vC, rfl⟩ := ownAt_slice HS8.out.2
  obtain ⟨gt, ct, e, -⟩ := ownAt_cells HS8.out.2 (by omega)
  cases e
  obtain ⟨⟨y, -, c1⟩, f1, h9⟩ := ownAt_setK HS8.out.2 (j := k * 2 + 1) (by omega) (.bool false)
  rw [HIS.out] at h9
  have HS9 := Lib.hid (And.intro (HS8.out.1.setCell ⟨gt, k * 2 + 1, none⟩ (.bool false)) h9)
  clear h9 x7 g7 HE7 HI7 HS8 HX7
  go_upto_region 14 with (fail)
  generalize w8.setCell ⟨gt, k * 2 + 1, none⟩ (.bool false) = w9 at HS9 ⊢
  clear c1 f1
  have HB9 := Lib.hid (HS9.out.1.below_of (HS9.out.2.perm (show _ = (ownAt TIt2 2 (.slice (some ⟨gt, 0, none⟩) l.length vC) l.length ((l.set k (x, false)).flatMap itE) * ownAt TI 1 (.slice aO Ma.length aC) Ma.length (intsV Ma)) * old w6 by ac_rfl)))
  have HMA := Lib.hid (HS9.out.2.perm (show _ = ownAt TI 1 (.slice aO Ma.length aC) Ma.length (intsV Ma) * (ownAt TIt2 2 (.slice (some ⟨gt, 0, none⟩) l.length vC) l.length ((l.set k (x, false)).flatMap itE) * old w6) by ac_rfl))
  have hma40 : (Ma.length : Int) ≤ 40 := by have := HHL.out; have := HLB.out; omega
  go_upto_region 17 with (fail)
  go_loopw [15] (fun j wr => HlS w9 Ma.length j wr) (fun j _ => Ma.length - (intOf j).toNat)
  case atStart => exact ⟨⟨0, Nat.zero_le _, rfl, rfl⟩⟩
  case round =>
   obtain ⟨j, hj, rfl, rfl⟩ := hrel.st
   clear hrel
   have hj40 : (j : Int) ≤ 40 := by omega
   by_cases hjn : j < Ma.length
   ·have hjd : decide ((j : Int) < (Ma.length : Int)) = true := decide_eq_true (by omega)
    have hwj : IntKind.i64.wrap ((j : Int) + 1) = (j : Int) + 1 := IntWalk.i64_in _ (by omega)
    obtain ⟨y, hy⟩ : ∃ y, Ma[j]? = some y := ⟨_, List.getElem?_eq_getElem hjn⟩
    obtain ⟨g2, c2, e, hc⟩ := ownAt_cells HMA.out (by omega)
    cases e
    have c1 := hc j _ (intsV_at hy)
    have hne := HHN.out j y hy
    clear hc hy
    go_wp2
    go_roundw
    case rel => exact ⟨⟨j + 1, by omega, by push_cast; rfl, rfl⟩⟩
    case measure => simp only [intOf]; omega
   ·have hje : j = Ma.length := by omega
    have hjd : decide ((j : Int) < (Ma.length : Int)) = false := decide_eq_false (by omega)
    subst hje
    have HTR9 := Lib.hid (fun W (h : Below w9.heap.size w9 W) => HTR6.out W (HB9.out.trans (h.mono HB9.out.size)))
    have HBW9 := Lib.hid (HB6.out.trans (HB9.out.mono HB6.out.size))
    have HBX9 := Lib.hid (HBB.out.trans (HBW9.out.mono HBB.out.size))
    have HI9 := Lib.hid (show RowsO w9 (.slice (some ⟨gt, 0, none⟩) l.length vC) (l.set k (x, false)).length ((l.set k (x, false)).flatMap itE) by rw [List.length_set]; exact own_rows HS9.out.2)
    have HF9 := Lib.hid (show FewP A B (l.set k (x, false)) from ⟨HGP.out.1.1, HGP.out.1.2.1, by rw [List.length_set]; exact HGP.out.1.2.2.1, HGP.out.1.2.2.2.1, HGP.out.1.2.2.2.2⟩)
    have HX9 := Lib.hid (HX.out w9 HBW9.out)
    go_upto_region 21 with (fail)
    all_goals try contradiction
    have hS0 : Below w9.heap.size w9 w9.drew := (Below.refl _ _).drew
    refine reg_begin (fun w' => Below w9.heap.size w9 w') (by kernel_rfl) ?_
    (apply reg_take 0 rfl rfl (by decide +kernel) rfl); (rintro w' h1; go_simp; rfl); exact hS0; simp only [zq1, zq2, zq3]
    (apply reg_take 1 rfl rfl (by decide +kernel) rfl); (rintro w' h1; go_simp; rfl); exact hS0; simp only [zq1, zq2, zq3]
    (apply reg_take 3 rfl rfl (by decide +kernel) rfl); (rintro w' h1; go_simp; rfl); exact hS0; simp only [zq1, zq2, zq3]
    refine reg_take 4 (v := .slice ao A.length ac) rfl rfl (by decide +kernel) rfl (fun w' h => exec_load_cell rfl rfl Tryz.underlying22 rfl (HX9.out.below h).c0) hS0 ?_; simp only [zq1, zq2, zq3]
    (apply reg_take 5 rfl rfl (by decide +kernel) rfl); (rintro w' h1; go_simp; rfl); exact hS0; simp only [zq1, zq2, zq3]
    refine reg_take 6 (v := .slice bo B.length bc) rfl rfl (by decide +kernel) rfl (fun w' h => exec_load_cell rfl rfl Tryz.underlying22 rfl (HX9.out.below h).c1) hS0 ?_; simp only [zq1, zq2, zq3]
    (apply reg_take 7 rfl rfl (by decide +kernel) rfl); (rintro w' h1; go_simp; rfl); exact hS0; simp only [zq1, zq2, zq3]
    refine reg_call 2 rfl rfl (by decide +kernel) rfl (by kernel_rfl) (report_any q _ p b cap rb L2 w9.drew (HSP.out _ (HBW9.out.drew)) HWF.out HSM.out (HTR9.out _ hS0)) ?_
    rintro v4 w10 ⟨h4, h5⟩
    simp only [zq1, zq2, zq3]
    rw [HLE.out] at h5
    have hb4 : Below w9.heap.size w9 w10 := hS0.trans ((h4.below_of h5).mono hS0.size)
    have HR4 := Lib.hid (own_rows h5)
    clear h4 h5 hS0
    refine ⟨hb4, ?_⟩
    refine reg_call 8 rfl rfl (by decide +kernel) rfl (by kernel_rfl) (HRP.out (l.set k (x, false)) (.slice (some ⟨gt, 0, none⟩) l.length vC) w10 (HBX9.out.trans (hb4.mono HBX9.out.size)) (HI9.out.below hb4) HF9.out) ?_
    rintro v5 w11 ⟨h4, h5⟩
    simp only [zq1, zq2, zq3]
    have hb45 := h4.below_of h5
    have hb5 : Below w9.heap.size w9 w11 := hb4.trans (hb45.mono hb4.size)
    have HR5 := Lib.hid (And.intro (HR4.out.below hb45) (own_rows h5))
    clear h4 h5 hb45 hb4 HR4
    refine ⟨hb5, ?_⟩
    refine reg_call 9 rfl rfl (by decide +kernel) rfl (R := fun v w' => v = .bool true ∧ Below w11.heap.size w11 w') (by kernel_rfl) ((sameG_any v4 v5 _ w11 HR5.out.1 HR5.out.2 HOK.out).mono fun e w' h => ⟨.bool true, h.1, And.intro rfl h.2⟩) ?_
    rintro v6 w12 ⟨rfl, h6⟩
    simp only [zq1, zq2, zq3]
    have hb6 : Below w9.heap.size w9 w12 := hb5.trans (h6.mono hb5.size)
    clear h6 hb5 HR5
    refine ⟨hb6, ?_⟩
    (apply reg_take 10 rfl rfl (by decide +kernel) rfl); (rintro w' h1; go_simp; rfl); exact hb6; simp only [zq1, zq2, zq3]
    refine reg_done (by decide +kernel) ?_
    have HB10 := Lib.hid (HBX9.out.trans (hb6.mono HBX9.out.size))
    clear hb6
    go_wp2
    go_ret
    exact ⟨rfl, HB10.out⟩
theorem healslaw_int (va vb vi : Value) (A B : List ElC) (l : List ItM) (w : World) (hA : CntL w va A) (hB : CntL w vb B) (hca : CapOk va) (hcb : CapOk vb) (hI : ItL w vi l) (hK : TabK w) (hT : TabF w) (hD : TabD w) (hS : TabS w) (n : Int) (hn : 0 ≤ n ∧ n ≤ 255) :
  Calls Tryz.prog 8 #[.agg #[va, vb, vi], .int .u8 n] w fun e w' => e = .returned (.bool true) ∧ Below w.heap.size w w' := by
 obtain ⟨m, rfl⟩ := Int.eq_ofNat_of_zero_le hn.1
 exact healslaw_any va vb vi A B l w hA hB hca hcb hI hK hT hD hS m (by omega)
end Go.Proofs.YteikbikopgabjaaGreatDoor
end
section
/- LossHeals, as a tied card: whatever the input, the law answers true and leaves its arguments alone; the tables that it reads are what the program's text lays (tied; over a pruned copy of the project). -/
namespace Go.Proofs.YteikbikopgabjaaGreatDoor
open Go.RowKit Go.GF Go.Sl Go.Vol Go.ChangeMaps Go.ChangeShapes Go.WideShapes Go.ChangeAt
set_option maxRecDepth 100000 in
set_option maxHeartbeats 1000000 in
theorem lossHeals_lifted (os : Os) (started : os.Started) (H : Type) (enc : TypeId × Value → H) :
  ReturnsInHanded {} Tryz.checked os 8 .any (fun w args => (Rows.lossHealsSpec.pre enc Tryz.prog Tryz.f8 [] false w args ∧ laidMetH Tryz.prog tabLaid4 w) ∧ sizedMet enc Tryz.prog Tryz.f8 (OpenSpec.ofChange Rows.lossHealsSpec) false w args) (Rows.lossHealsSpec.post enc Tryz.prog Tryz.f8 false true false false) := by
 refine returnsInHanded_of_change_and (C := Tryz.checked) (X := fun w _ => laidMetH Tryz.prog tabLaid4 w) (fun _ _ _ hh h => h.of_heap hh) law_own started (by kernel_rfl) Tryz.func8
  (ChangeSpec.witness_shaped (enc := enc) (C := Tryz.checked) (os := os) (X := fun w _ => laidMetH Tryz.prog tabLaid4 w) false (World.doorLaid Tryz.prog 31 os) #[.agg #[.slice none 0 0, .slice none 0 0, .slice none 0 0], .int .u8 0] 8 rfl (World.shaped_of_RefB (by kernel_rfl) (by kernel_rfl)) (by kernel_rfl) (by kernel_rfl) (by kernel_rfl) (door_met4 os _)) ?_
 intro W base args ds gs before hval0 hW _ _ hL _
 have hTW := tabs_of_laid4 hL
 have hval : ∀ (j : Nat) t v, Tryz.f8.params[j]? = some t → args[j]? = some v → Value.okWide Tryz.prog W .any base t v := hval0
 have hW' := hW
 obtain ⟨p, q, hA0, hV, rfl, _, _⟩ := hW
 have hA : DataW.TrodAll enc Tryz.prog W 0 (fun _ => true) true Tryz.f8.params.toList args.toList ds p := hA0
 rw [Tryz.params8] at hA hval
 obtain ⟨w0, vs0, d0, ds0, p0, q0, hargs, rfl, rfl, h0, r0⟩ := trodAll_cons hA
 obtain ⟨w1, vs1, d1, ds1, p1, q1, rfl, rfl, rfl, h1, r1⟩ := trodAll_cons r0
 obtain ⟨rfl, rfl, rfl⟩ := trodAll_nil r1
 obtain rfl : args = #[w0, w1] := by cases args; simp_all
 obtain ⟨rfl, rfl⟩ := trodVars_none hV
 obtain ⟨cs0, rfl, _⟩ := okWide_struct Tryz.underlying25 (hval 0 _ w0 rfl rfl)
 obtain ⟨va, vb, vi, A, B, l, e0, gA, gB, cA, cB, gI⟩ := rd_in41 (trod_rd h0)
 obtain rfl : cs0 = #[va, vb, vi] := by apply Array.ext'; simpa [Value.cells] using e0
 obtain ⟨n1, e1, z1⟩ := Rd.int Tryz.underlying5 (trod_rd h1)
 obtain ⟨t1, rfl⟩ := okWide_int Tryz.underlying5 (hval 1 _ w1 rfl rfl)
 obtain rfl : t1 = n1 := by simpa [Value.cells] using e1
 have y1 : 0 ≤ t1 ∧ t1 ≤ 255 := by simpa [Lit.wf, IntKind.min, IntKind.max, IntKind.bits, IntKind.signed] using z1
 refine (healslaw_int va vb vi A B l W gA gB cA cB gI hTW.1 hTW.2.1 hTW.2.2.1 hTW.2.2.2 t1 y1).mono fun e W' ⟨he, hg⟩ => ?_
 subst he
 exact ⟨_, rfl, law_post (by kernel_rfl) rfl (of_decide_eq_true (by kernel_rfl)) rfl hW' hg⟩
theorem lossHeals_holds : Rows.LossHealsSaid :=
 OpenClaim.holds_of_wide 8 Tryz.f8 rfl rfl rfl rfl rfl rfl rfl ⟨rfl, rfl, rfl, rfl, rfl⟩ rfl rfl rfl rfl rfl (by kernel_rfl) Tryz.func8 (by kernel_rfl)
  (of_decide_eq_true (by kernel_rfl)) (by unfold Func.isWrapper; first | (rw [if_pos (by decide +kernel)]; kernel_rfl) | (rw [if_neg (by decide +kernel)]; exact ⟨rfl, rfl⟩))
  (fun os started H enc _ => lossHeals_lifted os started H enc)
/-- The tied card. -/
theorem lossHealsCard_holds : Rows.LossHealsCardSaid :=
 Claim7.holds_tied_plain_at .later [] [.data, .data, .data, .data] true (true, "dd44be2b4fdb180e7981f82dd1d3492b06ede229f3f0961faae65c3ee6d32968") false
  lossHeals_holds (fun _ h => by cases h) (by kernel_rfl) (fun _ h => by cases h) lossHeals_row_tie rfl ⟨rfl, rfl⟩ (by kernel_rfl) rfl
  (fun f fn hf hfn => by
   obtain rfl : f = 8 := Option.some.inj ((show Tryz.prog.funcNamed "solvent/solventlaw41.LossHeals" = some 8 by kernel_rfl).symm.trans hf) |>.symm
   obtain rfl : fn = Tryz.f8 := (Option.some.inj (Tryz.func8.symm.trans hfn)).symm
   exact ⟨by kernel_rfl, fun j t ht => by
    rw [Tryz.params8] at ht
    have hm : t ∈ [25, 5] := by simpa using Array.mem_of_getElem? ht
    have hall : ([25, 5].all fun u => !Tryz.prog.wantsStandIn u) = true := by kernel_rfl
    exact (show Tryz.prog.wantsStandIn t = false by simpa using List.all_eq_true.1 hall t hm)⟩)
  (by kernel_rfl)
end Go.Proofs.YteikbikopgabjaaGreatDoor
end
