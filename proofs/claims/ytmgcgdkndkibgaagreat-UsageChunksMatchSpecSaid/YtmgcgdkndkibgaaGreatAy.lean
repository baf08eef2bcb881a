/- solventref28.Shared and Exclusive: the chunks of a space that pass a test. Printed by ay.py. -/
import Derived.Test.YtmgcgdkndkibgaaGreatAx
namespace Go.Proofs.YtmgcgdkndkibgaaGreat
open Go.RowKit Go.Vol Go.Sl

structure FlSt (W : World) (q : List Int) (P : Int → Bool) (v i : Value) (wr : World) : Prop where
  st : ∃ k : Nat, k ≤ q.length ∧ i = .int .i64 (k : Int) ∧ Hid (Same W wr ∧ Sat wr (ownI TI v ((q.take k).filter P) * old W))
theorem filter_take28 {q : List Int} {k : Nat} {c : Int} (P : Int → Bool) (h : q[k]? = some c) : (q.take (k + 1)).filter P = (q.take k).filter P ++ if P c then [c] else [] := by
  rw [List.take_add_one, h, List.filter_append]
  cases hp : P c <;> simp [hp]
theorem filter_len (q : List Int) (k : Nat) (P : Int → Bool) : ((q.take k).filter P).length ≤ q.length := Nat.le_trans (List.length_filter_le _ _) (by rw [List.length_take]; omega)
theorem ownI_snoc {w : World} {v : Value} {l : List Int} {c : Int} {F : HProp} (h : Sat w (ownAt TI 1 v (l.length + 1) (l.map (Value.int .i64) ++ [Value.int .i64 c]) * F)) : Sat w (ownI TI v (l ++ [c]) * F) := by
  unfold ownI
  rw [List.length_append, List.map_append]; exact h
theorem one_new (w : World) (c : Int) : ∀ j u, [Value.int .i64 c][j]? = some u → (w.alloc (.cells #[.int .i64 c] TI)).cell? ((⟨w.heap.size, 0, none⟩ : Addr).add j) = some u := by
  intro j u hu
  match j, hu with
  | 0, hu => rw [Addr.add_mid, cells_at (heap_alloc_new _ _)]; simpa using hu
set_option maxRecDepth 20000 in
set_option maxHeartbeats 8000000 in
theorem rshar_any {ok : Nat → Prop} (vv vs : Value) (S : SpaceM) (ta tb : Int) (w : World) (hS : RefAt ok w vv vs S) (hwf : S.WF) :
    Calls Tryz.prog 28 #[.agg #[vv, vs], .int .i64 ta, .int .i64 tb] w fun e w' => ∃ v, e = .returned v ∧ Hid (Below w.heap.size w w' ∧ IntsC w' v (sharM S ta tb)) := by
  unfold sharM
  obtain ⟨ti, hti, hz0, hts, hz2⟩ := info_parts info_i64
  have hb0 := (Below.refl w.heap.size w).alloc (Nat.le_refl _) (.cells #[vv, vs] TRS)
  have hblk := heap_alloc_new w (.cells #[vv, vs] TRS)
  have HCH := Lib.hid (rchunks_any vv vs S (w.alloc (.cells #[vv, vs] TRS)) (hS.below hb0) hwf)
  have hq := chunksM_len hwf
  have HB := Lib.hid (And.intro hb0 hblk)
  have HRF := Lib.hid (fun (W : World) (h : Below w.heap.size w W) (t c : Int) => refers_any vv vs S t c W (hS.below h) hwf)
  generalize chunksM S = q at HCH hq ⊢
  have HTI := Lib.hid (And.intro hti (And.intro hz0 (And.intro hts hz2)))
  clear hS hwf hb0 hblk hti hz0 hts hz2
  go_enter Tryz.func28, Tryz.ntmps28
  go_upto_region 3 with (go_at_call 45; refine HCH.out.mono ?_; rintro e w1 ⟨qv, rfl, h1⟩)
  have HA := Lib.hid (show w1.heap[w.heap.size]? = some (.cells #[vv, vs] TRS (0, 0)) from (h1.out.1.block _ (by simp)).trans HB.out.2)
  have HB1 := Lib.hid (HB.out.1.trans (h1.out.1.mono HB.out.1.size))
  have HQ := Lib.hid h1.out.2
  clear HCH HB h1
  generalize w.heap.size = A at HA ⊢
  obtain ⟨qa, qc, rfl, hqc, _⟩ := id HQ.out
  have H0 := Lib.hid (show Same w1 w1 ∧ Sat w1 (ownI TI (.slice none 0 0) ((q.take 0).filter (sharB S ta tb)) * old w1) from ⟨Same.refl w1, ownAt_nil.2 (Sat.old w1)⟩)
  go_wp2
  go_loopw [7, 9] (fun v i wr => FlSt w1 q (sharB S ta tb) v i wr) (fun _ i _ => q.length - (intOf i).toNat)
  case atStart => exact ⟨⟨0, Nat.zero_le _, rfl, H0.out⟩⟩
  case round =>
    clear H0
    obtain ⟨k, hk, rfl, HX⟩ := hrel.st
    clear hrel
    obtain ⟨ao, cap, rfl⟩ := ownAt_slice HX.out.2
    have hbw := HX.out.1.below_of HX.out.2
    by_cases hlt : k < q.length
    · have hltd : decide ((k : Int) < (q.length : Int)) = true := decide_eq_true (by omega)
      have hki : (k : Int) ≤ 2000000 := by omega
      obtain ⟨c, hc⟩ : ∃ c, q[k]? = some c := ⟨_, List.getElem?_eq_getElem hlt⟩
      obtain ⟨qa', qc', e, _, hcell⟩ := id HQ.out
      simp only [Value.slice.injEq, true_and] at e
      obtain ⟨rfl, rfl⟩ := e
      obtain ⟨b, off, rfl, hcell2⟩ := hcell (by rintro rfl; simp at hlt)
      have hcc := hcell2 k c hc
      rw [Nat.mul_one] at hcc
      have HCELL := Lib.hid (fun (W : World) (hb : Below w1.heap.size w1 W) => (show W.cell? ⟨A, 0, none⟩ = some vv ∧ W.cell? ⟨A, 1, none⟩ = some vs ∧ W.cell? ⟨b, off + k, none⟩ = some (.int .i64 c) from ⟨cells_at ((hb.block _ (Array.getElem?_eq_some_iff.1 HA.out).1).trans HA.out) 0, cells_at ((hb.block _ (Array.getElem?_eq_some_iff.1 HA.out).1).trans HA.out) 1, (hb.cell (p := ⟨b, off + k, none⟩) (World.block_lt_of_cell? _ _ hcc)).trans hcc⟩))
      have HFT := Lib.hid (filter_take28 (sharB S ta tb) hc)
      have hfl := filter_len q k (sharB S ta tb)
      have hwk : IntKind.i64.wrap ((k : Int) + 1) = (k : Int) + 1 := IntWalk.i64_in _ (by omega)
      clear hc hcell hcell2 hcc
      have HBW := Lib.hid hbw
      clear hbw
      have hdr : Below wr.heap.size wr wr.drew := (Below.refl _ _).drew
      have HC1 := Lib.hid (HRF.out wr.drew (HB1.out.trans ((HBW.out.trans (hdr.mono HBW.out.size)).mono HB1.out.size)) ta c)
      go_upto_region 6 with (fail)
      have hS0 := HCELL.out wr.drew (HBW.out.trans (hdr.mono HBW.out.size))
      refine reg_begin (fun w' => w'.cell? ⟨A, 0, none⟩ = some vv ∧ w'.cell? ⟨A, 1, none⟩ = some vs ∧ w'.cell? ⟨b, off + k, none⟩ = some (.int .i64 c)) (by kernel_rfl) ?_
      (apply reg_take 0 rfl rfl (by decide +kernel) rfl); (rintro w' ⟨h1, h2, h3⟩; go_simp; rfl); exact hS0; simp only [List.setIfInBounds_toArray, List.set_cons_succ, List.set_cons_zero]
      (apply reg_take 1 rfl rfl (by decide +kernel) rfl); (rintro w' ⟨h1, h2, h3⟩; go_simp; rfl); exact hS0; simp only [List.setIfInBounds_toArray, List.set_cons_succ, List.set_cons_zero]
      (apply reg_take 2 rfl rfl (by decide +kernel) rfl); (rintro w' ⟨h1, h2, h3⟩; go_simp; rfl); exact hS0; simp only [List.setIfInBounds_toArray, List.set_cons_succ, List.set_cons_zero]
      (apply reg_take 3 rfl rfl (by decide +kernel) rfl); (rintro w' ⟨h1, h2, h3⟩; go_simp; rfl); exact hS0; simp only [List.setIfInBounds_toArray, List.set_cons_succ, List.set_cons_zero]
      (apply reg_take 4 rfl rfl (by decide +kernel) rfl); (rintro w' ⟨h1, h2, h3⟩; go_simp; rfl); exact hS0; simp only [List.setIfInBounds_toArray, List.set_cons_succ, List.set_cons_zero]
      (apply reg_take 5 rfl rfl (by decide +kernel) rfl); (rintro w' ⟨h1, h2, h3⟩; go_simp; rfl); exact hS0; simp only [List.setIfInBounds_toArray, List.set_cons_succ, List.set_cons_zero]
      refine reg_call 6 rfl rfl (by decide +kernel) rfl (f := 46) (args := #[.agg #[vv, vs], .int .i64 ta, .int .i64 c]) (R := fun v w' => v = .bool (refB S ta c) ∧ Hid (Below wr.heap.size wr w')) (by kernel_rfl)
        (HC1.out.mono fun e w' h => ⟨_, h.1, rfl, hdr.trans h.2⟩) ?_
      rintro _ W3 ⟨rfl, h3⟩
      have hS3 := HCELL.out W3 (HBW.out.trans (h3.out.mono HBW.out.size))
      refine ⟨hS3, ?_⟩
      simp only [List.setIfInBounds_toArray, List.set_cons_succ, List.set_cons_zero]
      cases hr : refB S ta c
      · skip
        (apply reg_take 7 rfl rfl (by decide +kernel) rfl); (rintro w' ⟨h1, h2, h3⟩; go_simp; rfl); exact hS3; simp only [List.setIfInBounds_toArray, List.set_cons_succ, List.set_cons_zero]
        (apply reg_skip 8 rfl rfl (by decide +kernel) rfl); exact hS3; simp only [List.setIfInBounds_toArray, List.set_cons_succ, List.set_cons_zero]
        (apply reg_skip 9 rfl rfl (by decide +kernel) rfl); exact hS3; simp only [List.setIfInBounds_toArray, List.set_cons_succ, List.set_cons_zero]
        (apply reg_skip 10 rfl rfl (by decide +kernel) rfl); exact hS3; simp only [List.setIfInBounds_toArray, List.set_cons_succ, List.set_cons_zero]
        (apply reg_skip 11 rfl rfl (by decide +kernel) rfl); exact hS3; simp only [List.setIfInBounds_toArray, List.set_cons_succ, List.set_cons_zero]
        (apply reg_skip 12 rfl rfl (by decide +kernel) rfl); exact hS3; simp only [List.setIfInBounds_toArray, List.set_cons_succ, List.set_cons_zero]
        (apply reg_skip 13 rfl rfl (by decide +kernel) rfl); exact hS3; simp only [List.setIfInBounds_toArray, List.set_cons_succ, List.set_cons_zero]
        (apply reg_skip 14 rfl rfl (by decide +kernel) rfl); exact hS3; simp only [List.setIfInBounds_toArray, List.set_cons_succ, List.set_cons_zero]
        (apply reg_take 15 rfl rfl (by decide +kernel) rfl); (rintro w' ⟨h1, h2, h3⟩; go_simp; rfl); exact hS3; simp only [List.setIfInBounds_toArray, List.set_cons_succ, List.set_cons_zero]
        refine reg_done (by decide +kernel) ?_
        have HN := Lib.hid (And.intro (HX.out.1.below h3.out) (HX.out.2.below h3.out))
        clear HX hS0 hS3 h3 hdr HC1 HBW
        go_wp2
        go_roundw
        case rel => exact ⟨⟨k + 1, hlt, rfl, HN.out.1, by rw [HFT.out, show sharB S ta tb c = false by unfold sharB; rw [hr]; rfl]; simpa using HN.out.2⟩⟩
        case measure => simp only [intOf]; omega
      · skip
        (apply reg_take 7 rfl rfl (by decide +kernel) rfl); (rintro w' ⟨h1, h2, h3⟩; go_simp; rfl); exact hS3; simp only [List.setIfInBounds_toArray, List.set_cons_succ, List.set_cons_zero]
        (apply reg_take 8 rfl rfl (by decide +kernel) rfl); (rintro w' ⟨h1, h2, h3⟩; go_simp; rfl); exact hS3; simp only [List.setIfInBounds_toArray, List.set_cons_succ, List.set_cons_zero]
        (apply reg_take 9 rfl rfl (by decide +kernel) rfl); (rintro w' ⟨h1, h2, h3⟩; go_simp; rfl); exact hS3; simp only [List.setIfInBounds_toArray, List.set_cons_succ, List.set_cons_zero]
        (apply reg_take 10 rfl rfl (by decide +kernel) rfl); (rintro w' ⟨h1, h2, h3⟩; go_simp; rfl); exact hS3; simp only [List.setIfInBounds_toArray, List.set_cons_succ, List.set_cons_zero]
        (apply reg_take 11 rfl rfl (by decide +kernel) rfl); (rintro w' ⟨h1, h2, h3⟩; go_simp; rfl); exact hS3; simp only [List.setIfInBounds_toArray, List.set_cons_succ, List.set_cons_zero]
        (apply reg_take 12 rfl rfl (by decide +kernel) rfl); (rintro w' ⟨h1, h2, h3⟩; go_simp; rfl); exact hS3; simp only [List.setIfInBounds_toArray, List.set_cons_succ, List.set_cons_zero]
        (apply reg_take 13 rfl rfl (by decide +kernel) rfl); (rintro w' ⟨h1, h2, h3⟩; go_simp; rfl); exact hS3; simp only [List.setIfInBounds_toArray, List.set_cons_succ, List.set_cons_zero]
        refine reg_call 14 rfl rfl (by decide +kernel) rfl (f := 46) (args := #[.agg #[vv, vs], .int .i64 tb, .int .i64 c]) (R := fun v w' => v = .bool (refB S tb c) ∧ Hid (Below wr.heap.size wr w')) (by kernel_rfl)
          ((HRF.out W3 (HB1.out.trans ((HBW.out.trans (h3.out.mono HBW.out.size)).mono HB1.out.size)) tb c).mono fun e w' h => ⟨_, h.1, rfl, h3.out.trans (h.2.mono h3.out.size)⟩) ?_
        rintro _ W4 ⟨rfl, h4⟩
        have hS4 := HCELL.out W4 (HBW.out.trans (h4.out.mono HBW.out.size))
        refine ⟨hS4, ?_⟩
        simp only [List.setIfInBounds_toArray, List.set_cons_succ, List.set_cons_zero]
        (apply reg_take 15 rfl rfl (by decide +kernel) rfl); (rintro w' ⟨h1, h2, h3⟩; go_simp; rfl); exact hS4; simp only [List.setIfInBounds_toArray, List.set_cons_succ, List.set_cons_zero]
        refine reg_done (by decide +kernel) ?_
        have HN := Lib.hid (And.intro (HX.out.1.below h4.out) (HX.out.2.below h4.out))
        have HB4 := Lib.hid (HBW.out.trans (h4.out.mono HBW.out.size))
        clear HX hS0 hS3 hS4 h3 h4 hdr HC1 HBW
        cases hr2 : refB S tb c
        · go_wp2
          go_roundw
          case rel => exact ⟨⟨k + 1, hlt, rfl, HN.out.1, by rw [HFT.out, show sharB S ta tb c = false by unfold sharB; rw [hr, hr2]; rfl]; simpa using HN.out.2⟩⟩
          case measure => simp only [intOf]; omega
        · have hc2 := (HCELL.out W4 HB4.out).2.2
          obtain ⟨hti, hz0, hts, hz2⟩ := HTI.out
          go_wp2_with (at_builtin; refine wpList_append_ownAt rfl _ _ 32 3 rfl ti _ Tryz.underlying32 hti hz0 hts hz2 rfl (HN.out.2.allocKeep _) [.int .i64 c] rfl rfl rfl (one_new _ c) (by simp [Value.oneCell']) (by unfold maxLen; omega) (by omega) ?_; intro v5 w5 h5)
          have HY := Lib.hid (show Same w1 w5 ∧ Sat w5 (ownI TI v5 ((q.take k).filter (sharB S ta tb) ++ [c]) * old w1) from ⟨(HN.out.1.alloc _).trans h5.out.1, ownI_snoc h5.out.2⟩)
          obtain ⟨ao5, cap5, rfl⟩ := ownAt_slice h5.out.2
          clear h5 hc2 hti hz0 hts hz2
          go_wp2
          go_roundw
          case rel => exact ⟨⟨k + 1, hlt, rfl, HY.out.1, by rw [HFT.out, show sharB S ta tb c = true by unfold sharB; rw [hr, hr2]; rfl]; exact HY.out.2⟩⟩
          case measure => simp only [intOf]; omega
    · obtain rfl : k = q.length := by omega
      have hltd : decide ((q.length : Int) < (q.length : Int)) = false := decide_eq_false (by omega)
      have hnlt : ¬ (q.length : Int) < (q.length : Int) := by omega
      have hbw := HX.out.1.below_of HX.out.2
      have HF := Lib.hid (show IntsC wr (.slice ao (q.filter (sharB S ta tb)).length cap) (q.filter (sharB S ta tb)) from by have h := ownI_C HX.out.2; rw [List.take_length] at h; exact h)
      try simp only [List.take_length]
      clear HX
      go_wp2
      go_ret
      exact ⟨.slice ao (q.filter (sharB S ta tb)).length cap, rfl, HB1.out.trans (hbw.mono HB1.out.size), HF.out⟩
structure AlSt (W : World) (S : SpaceM) (t c : Int) (al i : Value) (wr : World) : Prop where
  st : ∃ u : Nat, u ≤ 16 ∧ i = .int .i64 (u : Int) ∧ al = .bool ((List.range u).all fun z => ((z : Int) == t) || !(refB S (z : Int) c)) ∧ Hid (Below W.heap.size W wr)
set_option maxRecDepth 20000 in
set_option maxHeartbeats 8000000 in
theorem rexcl_any {ok : Nat → Prop} (vv vs : Value) (S : SpaceM) (t : Int) (w : World) (hS : RefAt ok w vv vs S) (hwf : S.WF) :
    Calls Tryz.prog 26 #[.agg #[vv, vs], .int .i64 t] w fun e w' => ∃ v, e = .returned v ∧ Hid (Below w.heap.size w w' ∧ IntsC w' v (exclM S t)) := by
  unfold exclM
  obtain ⟨ti, hti, hz0, hts, hz2⟩ := info_parts info_i64
  have hb0 := (Below.refl w.heap.size w).alloc (Nat.le_refl _) (.cells #[vv, vs] TRS)
  have hblk := heap_alloc_new w (.cells #[vv, vs] TRS)
  have HCH := Lib.hid (rchunks_any vv vs S (w.alloc (.cells #[vv, vs] TRS)) (hS.below hb0) hwf)
  have hq := chunksM_len hwf
  have HB := Lib.hid (And.intro hb0 hblk)
  have HRF := Lib.hid (fun (W : World) (h : Below w.heap.size w W) (t c : Int) => refers_any vv vs S t c W (hS.below h) hwf)
  generalize chunksM S = q at HCH hq ⊢
  have HTI := Lib.hid (And.intro hti (And.intro hz0 (And.intro hts hz2)))
  clear hS hwf hb0 hblk hti hz0 hts hz2
  go_enter Tryz.func26, Tryz.ntmps26
  go_upto_region 3 with (go_at_call 45; refine HCH.out.mono ?_; rintro e w1 ⟨qv, rfl, h1⟩)
  have HA := Lib.hid (show w1.heap[w.heap.size]? = some (.cells #[vv, vs] TRS (0, 0)) from (h1.out.1.block _ (by simp)).trans HB.out.2)
  have HB1 := Lib.hid (HB.out.1.trans (h1.out.1.mono HB.out.1.size))
  have HQ := Lib.hid h1.out.2
  clear HCH HB h1
  generalize w.heap.size = A at HA ⊢
  obtain ⟨qa, qc, rfl, hqc, _⟩ := id HQ.out
  have H0 := Lib.hid (show Same w1 w1 ∧ Sat w1 (ownI TI (.slice none 0 0) ((q.take 0).filter (exclB S t)) * old w1) from ⟨Same.refl w1, ownAt_nil.2 (Sat.old w1)⟩)
  go_wp2
  go_loopw [5, 7] (fun v i wr => FlSt w1 q (exclB S t) v i wr) (fun _ i _ => q.length - (intOf i).toNat)
  case atStart => exact ⟨⟨0, Nat.zero_le _, rfl, H0.out⟩⟩
  case round =>
    clear H0
    obtain ⟨k, hk, rfl, HX⟩ := hrel.st
    clear hrel
    obtain ⟨ao, cap, rfl⟩ := ownAt_slice HX.out.2
    have hbw := HX.out.1.below_of HX.out.2
    by_cases hlt : k < q.length
    · have hltd : decide ((k : Int) < (q.length : Int)) = true := decide_eq_true (by omega)
      have hki : (k : Int) ≤ 2000000 := by omega
      obtain ⟨c, hc⟩ : ∃ c, q[k]? = some c := ⟨_, List.getElem?_eq_getElem hlt⟩
      obtain ⟨qa', qc', e, _, hcell⟩ := id HQ.out
      simp only [Value.slice.injEq, true_and] at e
      obtain ⟨rfl, rfl⟩ := e
      obtain ⟨b, off, rfl, hcell2⟩ := hcell (by rintro rfl; simp at hlt)
      have hcc := hcell2 k c hc
      rw [Nat.mul_one] at hcc
      have HCELL := Lib.hid (fun (W : World) (hb : Below w1.heap.size w1 W) => (show W.cell? ⟨A, 0, none⟩ = some vv ∧ W.cell? ⟨A, 1, none⟩ = some vs ∧ W.cell? ⟨b, off + k, none⟩ = some (.int .i64 c) from ⟨cells_at ((hb.block _ (Array.getElem?_eq_some_iff.1 HA.out).1).trans HA.out) 0, cells_at ((hb.block _ (Array.getElem?_eq_some_iff.1 HA.out).1).trans HA.out) 1, (hb.cell (p := ⟨b, off + k, none⟩) (World.block_lt_of_cell? _ _ hcc)).trans hcc⟩))
      have HFT := Lib.hid (filter_take28 (exclB S t) hc)
      have hfl := filter_len q k (exclB S t)
      have hwk : IntKind.i64.wrap ((k : Int) + 1) = (k : Int) + 1 := IntWalk.i64_in _ (by omega)
      clear hc hcell hcell2 hcc
      have HBW := Lib.hid hbw
      clear hbw
      have hdr : Below wr.heap.size wr wr.drew := (Below.refl _ _).drew
      have HC1 := Lib.hid (HRF.out wr.drew (HB1.out.trans ((HBW.out.trans (hdr.mono HBW.out.size)).mono HB1.out.size)) t c)
      go_upto_region 6 with (fail)
      have hS0 := HCELL.out wr.drew (HBW.out.trans (hdr.mono HBW.out.size))
      refine reg_begin (fun w' => w'.cell? ⟨A, 0, none⟩ = some vv ∧ w'.cell? ⟨A, 1, none⟩ = some vs ∧ w'.cell? ⟨b, off + k, none⟩ = some (.int .i64 c)) (by kernel_rfl) ?_
      (apply reg_take 0 rfl rfl (by decide +kernel) rfl); (rintro w' ⟨h1, h2, h3⟩; go_simp; rfl); exact hS0; simp only [List.setIfInBounds_toArray, List.set_cons_succ, List.set_cons_zero]
      (apply reg_take 1 rfl rfl (by decide +kernel) rfl); (rintro w' ⟨h1, h2, h3⟩; go_simp; rfl); exact hS0; simp only [List.setIfInBounds_toArray, List.set_cons_succ, List.set_cons_zero]
      (apply reg_take 2 rfl rfl (by decide +kernel) rfl); (rintro w' ⟨h1, h2, h3⟩; go_simp; rfl); exact hS0; simp only [List.setIfInBounds_toArray, List.set_cons_succ, List.set_cons_zero]
      (apply reg_take 3 rfl rfl (by decide +kernel) rfl); (rintro w' ⟨h1, h2, h3⟩; go_simp; rfl); exact hS0; simp only [List.setIfInBounds_toArray, List.set_cons_succ, List.set_cons_zero]
      (apply reg_take 4 rfl rfl (by decide +kernel) rfl); (rintro w' ⟨h1, h2, h3⟩; go_simp; rfl); exact hS0; simp only [List.setIfInBounds_toArray, List.set_cons_succ, List.set_cons_zero]
      (apply reg_take 5 rfl rfl (by decide +kernel) rfl); (rintro w' ⟨h1, h2, h3⟩; go_simp; rfl); exact hS0; simp only [List.setIfInBounds_toArray, List.set_cons_succ, List.set_cons_zero]
      refine reg_call 6 rfl rfl (by decide +kernel) rfl (f := 46) (args := #[.agg #[vv, vs], .int .i64 t, .int .i64 c]) (R := fun v w' => v = .bool (refB S t c) ∧ Hid (Below wr.heap.size wr w')) (by kernel_rfl)
        (HC1.out.mono fun e w' h => ⟨_, h.1, rfl, hdr.trans h.2⟩) ?_
      rintro _ W3 ⟨rfl, h3⟩
      have hS3 := HCELL.out W3 (HBW.out.trans (h3.out.mono HBW.out.size))
      refine ⟨hS3, ?_⟩
      simp only [List.setIfInBounds_toArray, List.set_cons_succ, List.set_cons_zero]
      (apply reg_take 7 rfl rfl (by decide +kernel) rfl); (rintro w' ⟨h1, h2, h3⟩; go_simp; rfl); exact hS3; simp only [List.setIfInBounds_toArray, List.set_cons_succ, List.set_cons_zero]
      refine reg_done (by decide +kernel) ?_
      have HN := Lib.hid (And.intro (HX.out.1.below h3.out) (HX.out.2.below h3.out))
      have HB3 := Lib.hid (HBW.out.trans (h3.out.mono HBW.out.size))
      clear HX hS0 hS3 h3 hdr HC1 HBW
      cases hr : refB S t c
      · skip
        go_wp2
        go_roundw
        case rel => exact ⟨⟨k + 1, hlt, rfl, HN.out.1, by rw [HFT.out, show exclB S t c = false by unfold exclB; rw [hr]; rfl]; simpa using HN.out.2⟩⟩
        case measure => simp only [intOf]; omega
      · have HR := Lib.hid hr
        clear hr
        go_wp2
        go_loopw [8, 9] (fun al i wr => AlSt W3 S t c al i wr) (fun _ i _ => 16 - (intOf i).toNat)
        case atStart => exact ⟨⟨0, Nat.zero_le _, rfl, rfl, Below.refl _ _⟩⟩
        case round =>
          obtain ⟨u, hu, rfl, rfl, HY⟩ := hrel.st
          clear hrel
          by_cases hlu : u < 16
          · have hlud : decide ((u : Int) < 16) = true := decide_eq_true (by omega)
            have hui : (u : Int) ≤ 16 := by omega
            have hwu : IntKind.i64.wrap ((u : Int) + 1) = (u : Int) + 1 := IntWalk.i64_in _ (by omega)
            have HS := Lib.hid (show ((List.range (u + 1)).all fun z => ((z : Int) == t) || !(refB S (z : Int) c)) = (((List.range u).all fun z => ((z : Int) == t) || !(refB S (z : Int) c)) && (((u : Int) == t) || !(refB S (u : Int) c))) from by rw [List.range_succ, List.all_append]; simp)
            cases hal : ((List.range u).all fun z => ((z : Int) == t) || !(refB S (z : Int) c))
            · rw [hal] at HS
              go_upto_region 11 with (fail)
              have hd5 : Below wr.heap.size wr wr.drew := (Below.refl _ _).drew
              have hS5 := HCELL.out wr.drew (HB3.out.trans ((HY.out.trans (hd5.mono HY.out.size)).mono HB3.out.size))
              refine reg_begin (fun w' => w'.cell? ⟨A, 0, none⟩ = some vv ∧ w'.cell? ⟨A, 1, none⟩ = some vs ∧ w'.cell? ⟨b, off + k, none⟩ = some (.int .i64 c)) (by kernel_rfl) ?_
              (apply reg_take 0 rfl rfl (by decide +kernel) rfl); (rintro w' ⟨h1, h2, h3⟩; go_simp; rfl); exact hS5; simp only [List.setIfInBounds_toArray, List.set_cons_succ, List.set_cons_zero]
              (apply reg_take 1 rfl rfl (by decide +kernel) rfl); (rintro w' ⟨h1, h2, h3⟩; go_simp; rfl); exact hS5; simp only [List.setIfInBounds_toArray, List.set_cons_succ, List.set_cons_zero]
              (apply reg_skip 2 rfl rfl (by decide +kernel) rfl); exact hS5; simp only [List.setIfInBounds_toArray, List.set_cons_succ, List.set_cons_zero]
              (apply reg_skip 3 rfl rfl (by decide +kernel) rfl); exact hS5; simp only [List.setIfInBounds_toArray, List.set_cons_succ, List.set_cons_zero]
              (apply reg_skip 4 rfl rfl (by decide +kernel) rfl); exact hS5; simp only [List.setIfInBounds_toArray, List.set_cons_succ, List.set_cons_zero]
              (apply reg_skip 5 rfl rfl (by decide +kernel) rfl); exact hS5; simp only [List.setIfInBounds_toArray, List.set_cons_succ, List.set_cons_zero]
              (apply reg_skip 6 rfl rfl (by decide +kernel) rfl); exact hS5; simp only [List.setIfInBounds_toArray, List.set_cons_succ, List.set_cons_zero]
              (apply reg_skip 7 rfl rfl (by decide +kernel) rfl); exact hS5; simp only [List.setIfInBounds_toArray, List.set_cons_succ, List.set_cons_zero]
              (apply reg_skip 8 rfl rfl (by decide +kernel) rfl); exact hS5; simp only [List.setIfInBounds_toArray, List.set_cons_succ, List.set_cons_zero]
              (apply reg_skip 9 rfl rfl (by decide +kernel) rfl); exact hS5; simp only [List.setIfInBounds_toArray, List.set_cons_succ, List.set_cons_zero]
              (apply reg_skip 10 rfl rfl (by decide +kernel) rfl); exact hS5; simp only [List.setIfInBounds_toArray, List.set_cons_succ, List.set_cons_zero]
              (apply reg_skip 11 rfl rfl (by decide +kernel) rfl); exact hS5; simp only [List.setIfInBounds_toArray, List.set_cons_succ, List.set_cons_zero]
              (apply reg_skip 12 rfl rfl (by decide +kernel) rfl); exact hS5; simp only [List.setIfInBounds_toArray, List.set_cons_succ, List.set_cons_zero]
              (apply reg_skip 13 rfl rfl (by decide +kernel) rfl); exact hS5; simp only [List.setIfInBounds_toArray, List.set_cons_succ, List.set_cons_zero]
              (apply reg_skip 14 rfl rfl (by decide +kernel) rfl); exact hS5; simp only [List.setIfInBounds_toArray, List.set_cons_succ, List.set_cons_zero]
              (apply reg_take 15 rfl rfl (by decide +kernel) rfl); (rintro w' ⟨h1, h2, h3⟩; go_simp; rfl); exact hS5; simp only [List.setIfInBounds_toArray, List.set_cons_succ, List.set_cons_zero]
              (apply reg_take 16 rfl rfl (by decide +kernel) rfl); (rintro w' ⟨h1, h2, h3⟩; go_simp; rfl); exact hS5; simp only [List.setIfInBounds_toArray, List.set_cons_succ, List.set_cons_zero]
              refine reg_done (by decide +kernel) ?_
              have HZ := Lib.hid (HY.out.trans (hd5.mono HY.out.size))
              clear hS5 hd5 HY
              go_wp2
              go_roundw
              case rel => exact ⟨⟨u + 1, hlu, rfl, by rw [HS.out]; rfl, HZ.out⟩⟩
              case measure => simp only [intOf]; omega
            · rw [hal] at HS
              cases hut : ((u : Int) == t)
              · rw [hut] at HS
                go_upto_region 11 with (fail)
                have hd5 : Below wr.heap.size wr wr.drew := (Below.refl _ _).drew
                have hS5 := HCELL.out wr.drew (HB3.out.trans ((HY.out.trans (hd5.mono HY.out.size)).mono HB3.out.size))
                refine reg_begin (fun w' => w'.cell? ⟨A, 0, none⟩ = some vv ∧ w'.cell? ⟨A, 1, none⟩ = some vs ∧ w'.cell? ⟨b, off + k, none⟩ = some (.int .i64 c)) (by kernel_rfl) ?_
                (apply reg_take 0 rfl rfl (by decide +kernel) rfl); (rintro w' ⟨h1, h2, h3⟩; go_simp; rfl); exact hS5; simp only [List.setIfInBounds_toArray, List.set_cons_succ, List.set_cons_zero]
                (apply reg_take 1 rfl rfl (by decide +kernel) rfl); (rintro w' ⟨h1, h2, h3⟩; go_simp; rfl); exact hS5; simp only [List.setIfInBounds_toArray, List.set_cons_succ, List.set_cons_zero]
                (apply reg_take 2 rfl rfl (by decide +kernel) rfl); (rintro w' ⟨h1, h2, h3⟩; go_simp; rfl); exact hS5; simp only [List.setIfInBounds_toArray, List.set_cons_succ, List.set_cons_zero]
                (apply reg_take 3 rfl rfl (by decide +kernel) rfl); (rintro w' ⟨h1, h2, h3⟩; go_simp; rfl); exact hS5; simp only [List.setIfInBounds_toArray, List.set_cons_succ, List.set_cons_zero]
                (apply reg_take 4 rfl rfl (by decide +kernel) rfl); (rintro w' ⟨h1, h2, h3⟩; go_simp; rfl); exact hS5; simp only [List.setIfInBounds_toArray, List.set_cons_succ, List.set_cons_zero]
                (apply reg_take 5 rfl rfl (by decide +kernel) rfl); (rintro w' ⟨h1, h2, h3⟩; go_simp; rfl); exact hS5; simp only [List.setIfInBounds_toArray, List.set_cons_succ, List.set_cons_zero]
                (apply reg_take 6 rfl rfl (by decide +kernel) rfl); (rintro w' ⟨h1, h2, h3⟩; go_simp; rfl); exact hS5; simp only [List.setIfInBounds_toArray, List.set_cons_succ, List.set_cons_zero]
                (apply reg_take 7 rfl rfl (by decide +kernel) rfl); (rintro w' ⟨h1, h2, h3⟩; go_simp; rfl); exact hS5; simp only [List.setIfInBounds_toArray, List.set_cons_succ, List.set_cons_zero]
                (apply reg_take 8 rfl rfl (by decide +kernel) rfl); (rintro w' ⟨h1, h2, h3⟩; go_simp; rfl); exact hS5; simp only [List.setIfInBounds_toArray, List.set_cons_succ, List.set_cons_zero]
                (apply reg_take 9 rfl rfl (by decide +kernel) rfl); (rintro w' ⟨h1, h2, h3⟩; go_simp; rfl); exact hS5; simp only [List.setIfInBounds_toArray, List.set_cons_succ, List.set_cons_zero]
                (apply reg_take 10 rfl rfl (by decide +kernel) rfl); (rintro w' ⟨h1, h2, h3⟩; go_simp; rfl); exact hS5; simp only [List.setIfInBounds_toArray, List.set_cons_succ, List.set_cons_zero]
                (apply reg_take 11 rfl rfl (by decide +kernel) rfl); (rintro w' ⟨h1, h2, h3⟩; go_simp; rfl); exact hS5; simp only [List.setIfInBounds_toArray, List.set_cons_succ, List.set_cons_zero]
                refine reg_call 12 rfl rfl (by decide +kernel) rfl (f := 46) (args := #[.agg #[vv, vs], .int .i64 (u : Int), .int .i64 c]) (R := fun v w' => v = .bool (refB S (u : Int) c) ∧ Hid (Below wr.heap.size wr w')) (by kernel_rfl)
                  ((HRF.out wr.drew (HB1.out.trans ((HB3.out.trans ((HY.out.trans (hd5.mono HY.out.size)).mono HB3.out.size)).mono HB1.out.size)) (u : Int) c).mono fun e w' h => ⟨_, h.1, rfl, hd5.trans h.2⟩) ?_
                rintro _ W6 ⟨rfl, h6⟩
                have hS6 := HCELL.out W6 (HB3.out.trans ((HY.out.trans (h6.out.mono HY.out.size)).mono HB3.out.size))
                refine ⟨hS6, ?_⟩
                simp only [List.setIfInBounds_toArray, List.set_cons_succ, List.set_cons_zero]
                (apply reg_take 13 rfl rfl (by decide +kernel) rfl); (rintro w' ⟨h1, h2, h3⟩; go_simp; rfl); exact hS6; simp only [List.setIfInBounds_toArray, List.set_cons_succ, List.set_cons_zero]
                (apply reg_take 14 rfl rfl (by decide +kernel) rfl); (rintro w' ⟨h1, h2, h3⟩; go_simp; rfl); exact hS6; simp only [List.setIfInBounds_toArray, List.set_cons_succ, List.set_cons_zero]
                (apply reg_take 15 rfl rfl (by decide +kernel) rfl); (rintro w' ⟨h1, h2, h3⟩; go_simp; rfl); exact hS6; simp only [List.setIfInBounds_toArray, List.set_cons_succ, List.set_cons_zero]
                (apply reg_take 16 rfl rfl (by decide +kernel) rfl); (rintro w' ⟨h1, h2, h3⟩; go_simp; rfl); exact hS6; simp only [List.setIfInBounds_toArray, List.set_cons_succ, List.set_cons_zero]
                refine reg_done (by decide +kernel) ?_
                have HZ := Lib.hid (HY.out.trans (h6.out.mono HY.out.size))
                clear hS5 hS6 hd5 h6 HY
                go_wp2
                go_roundw
                case rel => exact ⟨⟨u + 1, hlu, rfl, by rw [HS.out]; rfl, HZ.out⟩⟩
                case measure => simp only [intOf]; omega
              · rw [hut] at HS
                go_upto_region 11 with (fail)
                have hd5 : Below wr.heap.size wr wr.drew := (Below.refl _ _).drew
                have hS5 := HCELL.out wr.drew (HB3.out.trans ((HY.out.trans (hd5.mono HY.out.size)).mono HB3.out.size))
                refine reg_begin (fun w' => w'.cell? ⟨A, 0, none⟩ = some vv ∧ w'.cell? ⟨A, 1, none⟩ = some vs ∧ w'.cell? ⟨b, off + k, none⟩ = some (.int .i64 c)) (by kernel_rfl) ?_
                (apply reg_take 0 rfl rfl (by decide +kernel) rfl); (rintro w' ⟨h1, h2, h3⟩; go_simp; rfl); exact hS5; simp only [List.setIfInBounds_toArray, List.set_cons_succ, List.set_cons_zero]
                (apply reg_take 1 rfl rfl (by decide +kernel) rfl); (rintro w' ⟨h1, h2, h3⟩; go_simp; rfl); exact hS5; simp only [List.setIfInBounds_toArray, List.set_cons_succ, List.set_cons_zero]
                (apply reg_take 2 rfl rfl (by decide +kernel) rfl); (rintro w' ⟨h1, h2, h3⟩; go_simp; rfl); exact hS5; simp only [List.setIfInBounds_toArray, List.set_cons_succ, List.set_cons_zero]
                (apply reg_take 3 rfl rfl (by decide +kernel) rfl); (rintro w' ⟨h1, h2, h3⟩; go_simp; rfl); exact hS5; simp only [List.setIfInBounds_toArray, List.set_cons_succ, List.set_cons_zero]
                (apply reg_take 4 rfl rfl (by decide +kernel) rfl); (rintro w' ⟨h1, h2, h3⟩; go_simp; rfl); exact hS5; simp only [List.setIfInBounds_toArray, List.set_cons_succ, List.set_cons_zero]
                (apply reg_take 5 rfl rfl (by decide +kernel) rfl); (rintro w' ⟨h1, h2, h3⟩; go_simp; rfl); exact hS5; simp only [List.setIfInBounds_toArray, List.set_cons_succ, List.set_cons_zero]
                (apply reg_skip 6 rfl rfl (by decide +kernel) rfl); exact hS5; simp only [List.setIfInBounds_toArray, List.set_cons_succ, List.set_cons_zero]
                (apply reg_skip 7 rfl rfl (by decide +kernel) rfl); exact hS5; simp only [List.setIfInBounds_toArray, List.set_cons_succ, List.set_cons_zero]
                (apply reg_skip 8 rfl rfl (by decide +kernel) rfl); exact hS5; simp only [List.setIfInBounds_toArray, List.set_cons_succ, List.set_cons_zero]
                (apply reg_skip 9 rfl rfl (by decide +kernel) rfl); exact hS5; simp only [List.setIfInBounds_toArray, List.set_cons_succ, List.set_cons_zero]
                (apply reg_skip 10 rfl rfl (by decide +kernel) rfl); exact hS5; simp only [List.setIfInBounds_toArray, List.set_cons_succ, List.set_cons_zero]
                (apply reg_skip 11 rfl rfl (by decide +kernel) rfl); exact hS5; simp only [List.setIfInBounds_toArray, List.set_cons_succ, List.set_cons_zero]
                (apply reg_skip 12 rfl rfl (by decide +kernel) rfl); exact hS5; simp only [List.setIfInBounds_toArray, List.set_cons_succ, List.set_cons_zero]
                (apply reg_skip 13 rfl rfl (by decide +kernel) rfl); exact hS5; simp only [List.setIfInBounds_toArray, List.set_cons_succ, List.set_cons_zero]
                (apply reg_take 14 rfl rfl (by decide +kernel) rfl); (rintro w' ⟨h1, h2, h3⟩; go_simp; rfl); exact hS5; simp only [List.setIfInBounds_toArray, List.set_cons_succ, List.set_cons_zero]
                (apply reg_take 15 rfl rfl (by decide +kernel) rfl); (rintro w' ⟨h1, h2, h3⟩; go_simp; rfl); exact hS5; simp only [List.setIfInBounds_toArray, List.set_cons_succ, List.set_cons_zero]
                (apply reg_take 16 rfl rfl (by decide +kernel) rfl); (rintro w' ⟨h1, h2, h3⟩; go_simp; rfl); exact hS5; simp only [List.setIfInBounds_toArray, List.set_cons_succ, List.set_cons_zero]
                refine reg_done (by decide +kernel) ?_
                have HZ := Lib.hid (HY.out.trans (hd5.mono HY.out.size))
                clear hS5 hd5 HY
                go_wp2
                go_roundw
                case rel => exact ⟨⟨u + 1, hlu, rfl, by rw [HS.out]; rfl, HZ.out⟩⟩
                case measure => simp only [intOf]; omega
          · obtain rfl : u = 16 := by omega
            have hlud : decide (((16 : Nat) : Int) < 16) = false := decide_eq_false (by omega)
            have hnlu : ¬ ((16 : Nat) : Int) < 16 := by omega
            have HN := Lib.hid (And.intro (HN.out.1.below HY.out) (HN.out.2.below HY.out))
            have HB4 := Lib.hid (HB3.out.trans (HY.out.mono HB3.out.size))
            have HAL := Lib.hid (show aloneB S t c = ((List.range 16).all fun z => ((z : Int) == t) || !(refB S (z : Int) c)) from rfl)
            cases hal : ((List.range 16).all fun z => ((z : Int) == t) || !(refB S (z : Int) c))
            · go_wp2
              go_roundw
              case rel => exact ⟨⟨k + 1, hlt, rfl, HN.out.1, by rw [HFT.out, show exclB S t c = false by unfold exclB; rw [HR.out, HAL.out, hal]; rfl]; simpa using HN.out.2⟩⟩
              case measure => simp only [intOf]; omega
            · have hc2 := (HCELL.out wr HB4.out).2.2
              obtain ⟨hti, hz0, hts, hz2⟩ := HTI.out
              go_wp2_with (at_builtin; refine wpList_append_ownAt rfl _ _ 32 3 rfl ti _ Tryz.underlying32 hti hz0 hts hz2 rfl (HN.out.2.allocKeep _) [.int .i64 c] rfl rfl rfl (one_new _ c) (by simp [Value.oneCell']) (by unfold maxLen; omega) (by omega) ?_; intro v5 w5 h5)
              have HY := Lib.hid (show Same w1 w5 ∧ Sat w5 (ownI TI v5 ((q.take k).filter (exclB S t) ++ [c]) * old w1) from ⟨(HN.out.1.alloc _).trans h5.out.1, ownI_snoc h5.out.2⟩)
              obtain ⟨ao5, cap5, rfl⟩ := ownAt_slice h5.out.2
              clear h5 hc2 hti hz0 hts hz2
              go_wp2
              go_roundw
              case rel => exact ⟨⟨k + 1, hlt, rfl, HY.out.1, by rw [HFT.out, show exclB S t c = true by unfold exclB; rw [HR.out, HAL.out, hal]; rfl]; exact HY.out.2⟩⟩
              case measure => simp only [intOf]; omega
    · obtain rfl : k = q.length := by omega
      have hltd : decide ((q.length : Int) < (q.length : Int)) = false := decide_eq_false (by omega)
      have hnlt : ¬ (q.length : Int) < (q.length : Int) := by omega
      have hbw := HX.out.1.below_of HX.out.2
      have HF := Lib.hid (show IntsC wr (.slice ao (q.filter (exclB S t)).length cap) (q.filter (exclB S t)) from by have h := ownI_C HX.out.2; rw [List.take_length] at h; exact h)
      try simp only [List.take_length]
      clear HX
      go_wp2
      go_ret
      exact ⟨.slice ao (q.filter (exclB S t)).length cap, rfl, HB1.out.trans (hbw.mono HB1.out.size), HF.out⟩
end Go.Proofs.YtmgcgdkndkibgaaGreat
