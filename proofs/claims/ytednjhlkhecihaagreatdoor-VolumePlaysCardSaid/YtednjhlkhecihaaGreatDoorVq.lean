/- volume.Space: Clone, Snapshot. -/
import Derived.Test.YtednjhlkhecihaaGreatDoorVp
namespace Go.Proofs.YtednjhlkhecihaaGreatDoor
open Go.RowKit Go.Vol Go.Sl

set_option maxHeartbeats 1000000 in
theorem cloneS_any (p : Nat) (S : SpaceM) (v t : Int) (w : World) (hS : SpaceAt TNode TSp w p S) (hwf : S.WF) :
    Calls Tryz.prog 26 #[.pointer (some ⟨p, 0, none⟩), .int .i64 v, .int .i64 t] w (Res3 w (S.clone v t)) := by
  have HS := Lib.hid hS
  obtain ⟨lv, ls, hlv, hls, ⟨vv, vs, hp, hrv, hrs⟩, hev, hes⟩ := hS
  obtain ⟨ao, cap, rfl, hvx⟩ := id hrv
  obtain ⟨so, scap, rfl, hsx⟩ := id hrs
  obtain ⟨c0, c1, hpl⟩ := sp_cells hp
  have hat := atsnap_any (.slice so ls.length scap) ls v w hrs
  rcases at_cases hls v with ⟨hn, hi⟩ | ⟨x, hx, hsome, hi, hlt, hid, hae⟩
  · have HM := Lib.hid (show S.clone v t = ⟨none, 0, 12⟩ by unfold SpaceM.clone; rw [hn])
    rw [hi] at hat
    have HA := Lib.hid hat
    clear hlv hls hp hrv hrs hev hes hn hi hat
    go_enter Tryz.func26, Tryz.ntmps26
    go_wp2_with (go_at_call 49; refine HA.out.mono ?_; rintro e w1 ⟨rfl, h2⟩)
    refine bodyPost_ret (v := .tuple #[.pointer none, .int .i64 0, .int .i64 12]) (by simp [results, Tryz.results26, go_sem]) rfl ?_
    rw [HM.out]
    exact ⟨_, rfl, h2, rfl⟩
  · have HM := Lib.hid (show S.clone v t = S.create t x.1.m by unfold SpaceM.clone; rw [hsome])
    rw [hi] at hat
    have HA := Lib.hid hat
    obtain ⟨g, rfl, hgl, e0, e1, e2, e3, e4⟩ := snap_cells hrs hx
    have hN := hes x (List.mem_of_getElem? hx)
    obtain ⟨q, hq⟩ := NodeAt.ptr hN
    rw [hq] at e2 hN
    have HK := Lib.hid (And.intro hN (And.intro e2 (And.intro e3 (And.intro c1 (And.intro hgl hpl)))))
    have hC := fun (W : World) (hb : Below w.heap.size w W) => create_any p S t (.pointer q) x.1.m W (HS.out.below hb) hwf (NodeAt.below hb HK.out.1)
    have HC := Lib.hid hC
    have hlen : ls.length ≤ 9223372036854775807 := by
      obtain ⟨_, _, e, h2, h3, _⟩ := hrs
      unfold maxLen at h3; simp only [Value.slice.injEq] at e; omega
    generalize atE ls v = i at *
    clear hlv hls hp hrv hrs hev hes hsome hi hat hC hN hq hid hae hx hvx hsx hwf
    go_enter Tryz.func26, Tryz.ntmps26
    go_wp2_with (first
      | (go_at_call 49; refine HA.out.mono ?_; rintro e w1 ⟨rfl, h2⟩; clear e0 e1 e2 e3 e4 c0 c1; have e2 := (h2.cell (p := ⟨g, i * 5 + 2, none⟩) HK.out.2.2.2.2.1).trans HK.out.2.1; have e3 := (h2.cell (p := ⟨g, i * 5 + 3, none⟩) HK.out.2.2.2.2.1).trans HK.out.2.2.1; have c1 := (h2.cell (p := ⟨p, 1, none⟩) HK.out.2.2.2.2.2).trans HK.out.2.2.2.1)
      | (go_at_call 54; refine (HC.out _ h2).mono ?_; rintro e w2 ⟨vr, rfl, h3, h4⟩; have H4 := Lib.hid (And.intro h3 h4); clear h3 h4))
    refine bodyPost_ret (v := .tuple #[vr, .int .i64 (S.create t x.1.m).id, .int .i64 (S.create t x.1.m).e]) (by simp [results, Tryz.results26, go_sem]) rfl ?_
    rw [HM.out]
    exact ⟨vr, rfl, h2.trans (H4.out.1.mono h2.size), H4.out.2⟩

set_option maxRecDepth 20000 in
set_option maxHeartbeats 4000000 in
theorem snapshotS_any (p : Nat) (S : SpaceM) (v : Int) (w : World) (hS : SpaceAt TNode TSp w p S) (hwf : S.WF) :
    Calls Tryz.prog 24 #[.pointer (some ⟨p, 0, none⟩), .int .i64 v] w (Res3 w (S.snapshot v)) := by
  obtain ⟨lv, ls, hlv, hls, ⟨vv, vs, hp, hrv, hrs⟩, hev, hes⟩ := hS
  obtain ⟨ao, cap, rfl, hvx⟩ := id hrv
  obtain ⟨so, scap, rfl, hsx⟩ := id hrs
  obtain ⟨c0, c1, hpl⟩ := sp_cells hp
  have hat := atvol_any (.slice ao lv.length cap) lv v w hrv
  have hlen : S.snaps.length = ls.length := by rw [← hls, List.length_map]
  have hn256 : ls.length ≤ 256 := by rw [← hlen]; exact hwf.slen
  have hlc : (ls.length : Int) ≤ 256 := by omega
  rcases at_cases hlv v with ⟨hn, hi⟩ | ⟨x, hx, hsome, hi, hlt, hid, hae⟩
  · have HM := Lib.hid (show S.snapshot v = ⟨none, 0, 12⟩ by unfold SpaceM.snapshot; rw [hn])
    rw [hi] at hat
    have HA := Lib.hid hat
    clear hlv hls hp hrv hrs hev hes hn hi hat hlen
    go_enter Tryz.func24, Tryz.ntmps24
    go_wp2_with (go_at_call 46; refine HA.out.mono ?_; rintro e w1 ⟨rfl, h2⟩)
    refine bodyPost_ret (v := .tuple #[.pointer none, .int .i64 0, .int .i64 12]) (by simp [results, Tryz.results24, go_sem]) rfl ?_
    rw [HM.out]
    exact ⟨_, rfl, h2, rfl⟩
  · rw [hi] at hat
    have HA := Lib.hid hat
    obtain ⟨⟨id, ten, src, m⟩, r⟩ := x
    obtain ⟨g, rfl, hgl, e0, e1, e2, e3⟩ := vol_cells hrv hx
    have hN := hev _ (List.mem_of_getElem? hx)
    obtain ⟨q, hq⟩ := NodeAt.ptr hN
    simp only at hq
    subst hq
    simp only at e0 e1 e2 e3 hN
    have HK := Lib.hid (And.intro c1 (And.intro e0 (And.intro e1 (And.intro e2 (And.intro e3 (And.intro c0 (And.intro hgl hpl)))))))
    by_cases h256 : 256 ≤ ls.length
    · have HRES := Lib.hid (show S.snapshot v = ⟨none, 0, 2⟩ by unfold SpaceM.snapshot; rw [hsome]; simp only; rw [if_pos (by rw [hlen]; exact h256)])
      have hd : decide ((256 : Int) ≤ (ls.length : Int)) = true := decide_eq_true (by omega)
      generalize atE lv v = i at *
      clear hlv hls hp hrv hrs hev hes hsome hi hat hN hid hae hx hvx hsx hwf hlen e0 e1 e2 e3
      go_enter Tryz.func24, Tryz.ntmps24
      go_wp2_with (go_at_call 46; refine HA.out.mono ?_; rintro e w1 ⟨rfl, h2⟩; clear c1; have c1 := (h2.cell (p := ⟨p, 1, none⟩) HK.out.2.2.2.2.2.2.2).trans HK.out.1)
      refine bodyPost_ret (v := .tuple #[.pointer none, .int .i64 0, .int .i64 2]) (by simp [results, Tryz.results24, go_sem]) rfl ?_
      rw [HRES.out]
      exact ⟨_, rfl, h2, rfl⟩
    · have HRES := Lib.hid (show S.snapshot v = ⟨some { S with snaps := S.snaps.insertIdx (free S.snaps) ⟨free S.snaps, ten, v, m⟩ }, free S.snaps, 0⟩ by unfold SpaceM.snapshot; rw [hsome]; simp only; rw [if_neg (by rw [hlen]; exact h256)])
      have hd : decide ((256 : Int) ≤ (ls.length : Int)) = false := decide_eq_false (by omega)
      have HFR := Lib.hid (show free S.snaps ≤ ls.length by rw [← hlen]; exact free_le hwf.snaps)
      have hfr := fun (W : World) (hb : Below w.heap.size w W) => freesnap_any (.slice so ls.length scap) ls W (hrs.below hb) (ElsAt.ptrs hes)
      rw [hls] at hfr
      have HF := Lib.hid hfr
      have HM := Lib.hid (And.intro hlv (And.intro hls (And.intro hrv (And.intro hev (And.intro hes hN)))))
      have HRV := Lib.hid hrs
      have HO5 := Lib.hid (ElsAt.one5 hes)
      have HN := Lib.hid (show ls.length ≤ 1000 by omega)
      have HP := Lib.hid hp
      have HPL := Lib.hid hpl
      have HC1 := Lib.hid c1
      have hfi : (free S.snaps : Int) ≤ 256 := by have := HFR.out; omega
      have hlvl : lv.length ≤ 64 := by rw [← List.length_map (f := Prod.fst), hlv]; exact hwf.vlen
      generalize atE lv v = i at *
      have hil : (i : Int) ≤ 64 := by omega
      clear hlv hls hp hrv hrs hev hes hsome hi hat hN hid hae hx hvx hsx hwf hlen hfr hpl hgl
      go_enter Tryz.func24, Tryz.ntmps24
      go_upto_region 9 with (first
        | (go_at_call 46; refine HA.out.mono ?_; clear HA; rintro e w1 ⟨rfl, h2⟩; clear c1 c0 e0 e1 e2 e3; have c1 := (h2.cell (p := ⟨p, 1, none⟩) HK.out.2.2.2.2.2.2.2).trans HK.out.1; have H2 := Lib.hid h2; clear h2)
        | (go_at_call 65; refine (HF.out _ H2.out).mono ?_; clear HF; rintro e w2 ⟨rfl, h3⟩; replace H2 := Lib.hid (H2.out.trans (h3.mono H2.out.size)); clear h3 c1; obtain ⟨_, e0, e1, e2, e3, c0, hgl, hpl⟩ := HK.out; replace e0 := (H2.out.cell (p := ⟨g, i * 4, none⟩) hgl).trans e0; replace e1 := (H2.out.cell (p := ⟨g, i * 4 + 1, none⟩) hgl).trans e1; replace e2 := (H2.out.cell (p := ⟨g, i * 4 + 2, none⟩) hgl).trans e2; replace e3 := (H2.out.cell (p := ⟨g, i * 4 + 3, none⟩) hgl).trans e3; replace c0 := (H2.out.cell (p := ⟨p, 0, none⟩) hpl).trans c0; clear hgl hpl))
      have H1 := Lib.hid (And.intro (((Same.refl w).below H2.out).alloc (.cells #[.int .i64 (free S.snaps : Int), .int .i64 ten, .pointer q, .int .i64 (cnt m : Int), .int .i64 v] TSnap)) (((Sat.old w).below H2.out).alloc (.cells #[.int .i64 (free S.snaps : Int), .int .i64 ten, .pointer q, .int .i64 (cnt m : Int), .int .i64 v] TSnap)))
      clear e0 e1 e2 e3 c0
      generalize w2.alloc (.cells #[.int .i64 (free S.snaps : Int), .int .i64 ten, .pointer q, .int .i64 (cnt m : Int), .int .i64 v] TSnap) = w1 at H1 ⊢
      generalize w2.heap.size = B9 at H1 ⊢
      have hbw1 := H1.out.1.below_of H1.out.2
      have hS0 : w1.drew.cell? ⟨p, 1, none⟩ = some (.slice so ls.length scap) ∧ w1.drew.cell? ⟨B9, 0, none⟩ = some (.int .i64 (free S.snaps : Int)) ∧ w1.drew.cell? ⟨B9, 1, none⟩ = some (.int .i64 ten) ∧ w1.drew.cell? ⟨B9, 2, none⟩ = some (.pointer q) ∧ w1.drew.cell? ⟨B9, 3, none⟩ = some (.int .i64 (cnt m : Int)) ∧ w1.drew.cell? ⟨B9, 4, none⟩ = some (.int .i64 v) := ⟨(hbw1.cell (p := ⟨p, 1, none⟩) HPL.out).trans HC1.out, cells_at H1.out.2.block 0, cells_at H1.out.2.block 1, cells_at H1.out.2.block 2, cells_at H1.out.2.block 3, cells_at H1.out.2.block 4⟩
      clear hbw1 hd H2
      refine reg_begin (fun w' => w'.cell? ⟨p, 1, none⟩ = some (.slice so ls.length scap) ∧ w'.cell? ⟨B9, 0, none⟩ = some (.int .i64 (free S.snaps : Int)) ∧ w'.cell? ⟨B9, 1, none⟩ = some (.int .i64 ten) ∧ w'.cell? ⟨B9, 2, none⟩ = some (.pointer q) ∧ w'.cell? ⟨B9, 3, none⟩ = some (.int .i64 (cnt m : Int)) ∧ w'.cell? ⟨B9, 4, none⟩ = some (.int .i64 v)) (by kernel_rfl) ?_
      (apply reg_take 0 rfl rfl (by decide +kernel) rfl); (rintro w' ⟨h1, h2, h3, h4, h5, h6⟩; go_simp; rfl); exact hS0; simp only [List.setIfInBounds_toArray, List.set_cons_succ, List.set_cons_zero]
      (apply reg_take 1 rfl rfl (by decide +kernel) rfl); (rintro w' ⟨h1, h2, h3, h4, h5, h6⟩; go_simp; rfl); exact hS0; simp only [List.setIfInBounds_toArray, List.set_cons_succ, List.set_cons_zero]
      (apply reg_take 2 rfl rfl (by decide +kernel) rfl); (rintro w' ⟨h1, h2, h3, h4, h5, h6⟩; go_simp; rfl); exact hS0; simp only [List.setIfInBounds_toArray, List.set_cons_succ, List.set_cons_zero]
      (apply reg_take 3 rfl rfl (by decide +kernel) rfl); (rintro w' ⟨h1, h2, h3, h4, h5, h6⟩; go_simp; rfl); exact hS0; simp only [List.setIfInBounds_toArray, List.set_cons_succ, List.set_cons_zero]
      (apply reg_take 4 rfl rfl (by decide +kernel) rfl); (rintro w' ⟨h1, h2, h3, h4, h5, h6⟩; go_simp; rfl); exact hS0; simp only [List.setIfInBounds_toArray, List.set_cons_succ, List.set_cons_zero]
      (apply reg_take 6 rfl rfl (by decide +kernel) rfl); (rintro w' ⟨h1, h2, h3, h4, h5, h6⟩; go_simp; rfl); exact hS0; simp only [List.setIfInBounds_toArray, List.set_cons_succ, List.set_cons_zero]
      (apply reg_take 7 rfl rfl (by decide +kernel) rfl); (rintro w' ⟨h1, h2, h3, h4, h5, h6⟩; go_simp; rfl); exact hS0; simp only [List.setIfInBounds_toArray, List.set_cons_succ, List.set_cons_zero]
      (apply reg_take 11 rfl rfl (by decide +kernel) rfl); (rintro w' ⟨h1, h2, h3, h4, h5, h6⟩; go_simp; rfl); exact hS0; simp only [List.setIfInBounds_toArray, List.set_cons_succ, List.set_cons_zero]
      have hclone := fun (W : World) (F : HProp) (hb : Below w.heap.size w W) (hF : Sat W F) => clonesnap_any (.slice so ls.length scap) ls.length (ls.flatMap snapE) F W (HRV.out.below hb) (flat_len snapE_len ls) HO5.out HN.out hF
      have HCL := Lib.hid hclone
      clear hclone
      refine reg_fork 5 8 (by decide +kernel) ?_ ?_
      · refine rstep_call rfl rfl (by decide +kernel) rfl (f := 68) (args := #[.slice so ls.length scap]) (R := fun v1 w' => ∃ a c, v1 = .slice a ls.length c ∧ Hid (Same w w' ∧ Sat w' (ownAt TSnap 5 (.slice a ls.length c) ls.length (ls.flatMap snapE) * (pts B9 (.cells #[.int .i64 (free S.snaps : Int), .int .i64 ten, .pointer q, .int .i64 (cnt m : Int), .int .i64 v] TSnap (0, 0)) * old w)))) (by kernel_rfl)
          ((HCL.out w1.drew (pts B9 (.cells #[.int .i64 (free S.snaps : Int), .int .i64 ten, .pointer q, .int .i64 (cnt m : Int), .int .i64 v] TSnap (0, 0)) * old w) ((H1.out.1.drew).below_of H1.out.2.drew) H1.out.2.drew).mono fun e w' h => by
            obtain ⟨v', rfl, h1, h2⟩ := h
            obtain ⟨a, c, rfl⟩ := ownAt_slice h2
            exact ⟨_, rfl, a, c, rfl, (H1.out.1.drew).trans h1, h2⟩) ?_
        rintro _ W2 ⟨a1, k1, rfl, h2⟩
        have hbw2 := h2.out.1.below_of (h2.out.2.perm (star_assoc _ _ _).symm)
        have hS2 : W2.cell? ⟨p, 1, none⟩ = some (.slice so ls.length scap) ∧ W2.cell? ⟨B9, 0, none⟩ = some (.int .i64 (free S.snaps : Int)) ∧ W2.cell? ⟨B9, 1, none⟩ = some (.int .i64 ten) ∧ W2.cell? ⟨B9, 2, none⟩ = some (.pointer q) ∧ W2.cell? ⟨B9, 3, none⟩ = some (.int .i64 (cnt m : Int)) ∧ W2.cell? ⟨B9, 4, none⟩ = some (.int .i64 v) := ⟨(hbw2.cell (p := ⟨p, 1, none⟩) HPL.out).trans HC1.out, cells_at h2.out.2.right.block 0, cells_at h2.out.2.right.block 1, cells_at h2.out.2.right.block 2, cells_at h2.out.2.right.block 3, cells_at h2.out.2.right.block 4⟩
        refine ⟨hS2, ?_⟩
        simp only [List.setIfInBounds_toArray, List.set_cons_succ, List.set_cons_zero]
        have hbw3 := hbw2.alloc hbw2.size (.cells #[.int .i64 (free S.snaps : Int), .int .i64 ten, .pointer q, .int .i64 (cnt m : Int), .int .i64 v] TSnap)
        have hA := (h2.out.2.alloc (.cells #[.int .i64 (free S.snaps : Int), .int .i64 ten, .pointer q, .int .i64 (cnt m : Int), .int .i64 v] TSnap)).perm (star_comm3 _ _ _)
        have hS3 : (W2.alloc (.cells #[.int .i64 (free S.snaps : Int), .int .i64 ten, .pointer q, .int .i64 (cnt m : Int), .int .i64 v] TSnap)).cell? ⟨p, 1, none⟩ = some (.slice so ls.length scap) ∧ (W2.alloc (.cells #[.int .i64 (free S.snaps : Int), .int .i64 ten, .pointer q, .int .i64 (cnt m : Int), .int .i64 v] TSnap)).cell? ⟨B9, 0, none⟩ = some (.int .i64 (free S.snaps : Int)) ∧ (W2.alloc (.cells #[.int .i64 (free S.snaps : Int), .int .i64 ten, .pointer q, .int .i64 (cnt m : Int), .int .i64 v] TSnap)).cell? ⟨B9, 1, none⟩ = some (.int .i64 ten) ∧ (W2.alloc (.cells #[.int .i64 (free S.snaps : Int), .int .i64 ten, .pointer q, .int .i64 (cnt m : Int), .int .i64 v] TSnap)).cell? ⟨B9, 2, none⟩ = some (.pointer q) ∧ (W2.alloc (.cells #[.int .i64 (free S.snaps : Int), .int .i64 ten, .pointer q, .int .i64 (cnt m : Int), .int .i64 v] TSnap)).cell? ⟨B9, 3, none⟩ = some (.int .i64 (cnt m : Int)) ∧ (W2.alloc (.cells #[.int .i64 (free S.snaps : Int), .int .i64 ten, .pointer q, .int .i64 (cnt m : Int), .int .i64 v] TSnap)).cell? ⟨B9, 4, none⟩ = some (.int .i64 v) := ⟨(hbw3.cell (p := ⟨p, 1, none⟩) HPL.out).trans HC1.out, cells_at hA.right.right.block 0, cells_at hA.right.right.block 1, cells_at hA.right.right.block 2, cells_at hA.right.right.block 3, cells_at hA.right.right.block 4⟩
        refine reg_run 8 (.slice (some ⟨W2.heap.size, 0, none⟩) 1 1) (W2.alloc (.cells #[.int .i64 (free S.snaps : Int), .int .i64 ten, .pointer q, .int .i64 (cnt m : Int), .int .i64 v] TSnap)) rfl rfl (by decide +kernel) rfl (by go_simp) (hS3) ?_; simp only [List.setIfInBounds_toArray, List.set_cons_succ, List.set_cons_zero]
        replace H1 := Lib.hid (And.intro (h2.out.1.alloc (.cells #[.int .i64 (free S.snaps : Int), .int .i64 ten, .pointer q, .int .i64 (cnt m : Int), .int .i64 v] TSnap)) hA)
        clear hS3 hbw3 hA hS2 hbw2 h2 hS0
        generalize W2.alloc (.cells #[.int .i64 (free S.snaps : Int), .int .i64 ten, .pointer q, .int .i64 (cnt m : Int), .int .i64 v] TSnap) = W3 at H1 ⊢
        generalize W2.heap.size = vb at H1 ⊢
        have hbw := H1.out.1.below_of (H1.out.2.perm (show _ = (ownAt TSnap 5 (.slice a1 ls.length k1) ls.length (ls.flatMap snapE) * (pts vb (.cells #[.int .i64 (free S.snaps : Int), .int .i64 ten, .pointer q, .int .i64 (cnt m : Int), .int .i64 v] TSnap (0, 0)) * pts B9 (.cells #[.int .i64 (free S.snaps : Int), .int .i64 ten, .pointer q, .int .i64 (cnt m : Int), .int .i64 v] TSnap (0, 0)))) * old w from by ac_rfl))
        refine reg_call 9 rfl rfl (by decide +kernel) rfl (f := 67) (args := #[.slice a1 ls.length k1, .int .i64 (free S.snaps : Int), .slice (some ⟨vb, 0, none⟩) 1 1]) (R := fun v1 w' => ∃ a c, v1 = .slice a (ls.length + 1) c ∧ Hid (Same w w' ∧ Sat w' (ownAt TSnap 5 (.slice a (ls.length + 1) c) (ls.length + 1) ((ls.flatMap snapE).take (free S.snaps * 5) ++ #[.int .i64 (free S.snaps : Int), .int .i64 ten, .pointer q, .int .i64 (cnt m : Int), .int .i64 v].toList ++ (ls.flatMap snapE).drop (free S.snaps * 5)) * (pts vb (.cells #[.int .i64 (free S.snaps : Int), .int .i64 ten, .pointer q, .int .i64 (cnt m : Int), .int .i64 v] TSnap (0, 0)) * (pts B9 (.cells #[.int .i64 (free S.snaps : Int), .int .i64 ten, .pointer q, .int .i64 (cnt m : Int), .int .i64 v] TSnap (0, 0)) * old w))))) (by kernel_rfl)
          ((inssnap_any (.slice a1 ls.length k1) ls.length (free S.snaps) (ls.flatMap snapE) #[.int .i64 (free S.snaps : Int), .int .i64 ten, .pointer q, .int .i64 (cnt m : Int), .int .i64 v].toList vb (pts B9 (.cells #[.int .i64 (free S.snaps : Int), .int .i64 ten, .pointer q, .int .i64 (cnt m : Int), .int .i64 v] TSnap (0, 0)) * old w) W3 HFR.out HN.out H1.out.2 rfl HO5.out (by intro u hu; simp at hu; rcases hu with rfl | rfl | rfl | rfl | rfl <;> rfl)).mono fun e w' h => by
            obtain ⟨s', rfl, h1, h2⟩ := h
            obtain ⟨a, c, rfl⟩ := ownAt_slice h2
            exact ⟨_, rfl, a, c, rfl, H1.out.1.trans h1, h2⟩) ?_
        rintro _ W4 ⟨a4, k4, rfl, h4⟩
        have hbw4 := h4.out.1.below_of (h4.out.2.perm (show _ = (ownAt TSnap 5 (.slice a4 (ls.length + 1) k4) (ls.length + 1) ((ls.flatMap snapE).take (free S.snaps * 5) ++ #[.int .i64 (free S.snaps : Int), .int .i64 ten, .pointer q, .int .i64 (cnt m : Int), .int .i64 v].toList ++ (ls.flatMap snapE).drop (free S.snaps * 5)) * (pts vb (.cells #[.int .i64 (free S.snaps : Int), .int .i64 ten, .pointer q, .int .i64 (cnt m : Int), .int .i64 v] TSnap (0, 0)) * pts B9 (.cells #[.int .i64 (free S.snaps : Int), .int .i64 ten, .pointer q, .int .i64 (cnt m : Int), .int .i64 v] TSnap (0, 0)))) * old w from by ac_rfl))
        have hS4 : W4.cell? ⟨p, 1, none⟩ = some (.slice so ls.length scap) ∧ W4.cell? ⟨B9, 0, none⟩ = some (.int .i64 (free S.snaps : Int)) ∧ W4.cell? ⟨B9, 1, none⟩ = some (.int .i64 ten) ∧ W4.cell? ⟨B9, 2, none⟩ = some (.pointer q) ∧ W4.cell? ⟨B9, 3, none⟩ = some (.int .i64 (cnt m : Int)) ∧ W4.cell? ⟨B9, 4, none⟩ = some (.int .i64 v) := ⟨(hbw4.cell (p := ⟨p, 1, none⟩) HPL.out).trans HC1.out, cells_at h4.out.2.right.right.block 0, cells_at h4.out.2.right.right.block 1, cells_at h4.out.2.right.right.block 2, cells_at h4.out.2.right.right.block 3, cells_at h4.out.2.right.right.block 4⟩
        refine ⟨hS4, ?_⟩
        simp only [List.setIfInBounds_toArray, List.set_cons_succ, List.set_cons_zero]
        have hva := snapshotsAre_any p (.slice (some ⟨g, 0, none⟩) lv.length cap) (.slice so ls.length scap) a4 (ls.length + 1) k4 W4 rfl ⟨_, _, _, rfl⟩ (by rw [hbw4.block p HPL.out]; exact HP.out)
        refine reg_call 10 rfl rfl (by decide +kernel) rfl (f := 66) (args := #[.pointer (some ⟨p, 0, none⟩), .slice a4 (ls.length + 1) k4]) (R := fun v1 w' => v1 = .pointer (some ⟨W4.heap.size, 0, none⟩) ∧ w' = W4.alloc (.cells #[.slice (some ⟨g, 0, none⟩) lv.length cap, .slice a4 (ls.length + 1) k4] TSp)) (by kernel_rfl) (hva.mono fun e w' h => ⟨_, h.1, rfl, h.2⟩) ?_
        rintro _ _ ⟨rfl, rfl⟩
        have hbw5 := hbw4.alloc hbw4.size (.cells #[.slice (some ⟨g, 0, none⟩) lv.length cap, .slice a4 (ls.length + 1) k4] TSp)
        have hb45 := (Below.refl W4.heap.size W4).alloc (Nat.le_refl _) (.cells #[.slice (some ⟨g, 0, none⟩) lv.length cap, .slice a4 (ls.length + 1) k4] TSp)
        have hs5 := h4.out.2.right.right.allocKeep (.cells #[.slice (some ⟨g, 0, none⟩) lv.length cap, .slice a4 (ls.length + 1) k4] TSp)
        have hS5 : (W4.alloc (.cells #[.slice (some ⟨g, 0, none⟩) lv.length cap, .slice a4 (ls.length + 1) k4] TSp)).cell? ⟨p, 1, none⟩ = some (.slice so ls.length scap) ∧ (W4.alloc (.cells #[.slice (some ⟨g, 0, none⟩) lv.length cap, .slice a4 (ls.length + 1) k4] TSp)).cell? ⟨B9, 0, none⟩ = some (.int .i64 (free S.snaps : Int)) ∧ (W4.alloc (.cells #[.slice (some ⟨g, 0, none⟩) lv.length cap, .slice a4 (ls.length + 1) k4] TSp)).cell? ⟨B9, 1, none⟩ = some (.int .i64 ten) ∧ (W4.alloc (.cells #[.slice (some ⟨g, 0, none⟩) lv.length cap, .slice a4 (ls.length + 1) k4] TSp)).cell? ⟨B9, 2, none⟩ = some (.pointer q) ∧ (W4.alloc (.cells #[.slice (some ⟨g, 0, none⟩) lv.length cap, .slice a4 (ls.length + 1) k4] TSp)).cell? ⟨B9, 3, none⟩ = some (.int .i64 (cnt m : Int)) ∧ (W4.alloc (.cells #[.slice (some ⟨g, 0, none⟩) lv.length cap, .slice a4 (ls.length + 1) k4] TSp)).cell? ⟨B9, 4, none⟩ = some (.int .i64 v) := ⟨(hbw5.cell (p := ⟨p, 1, none⟩) HPL.out).trans HC1.out, cells_at hs5.block 0, cells_at hs5.block 1, cells_at hs5.block 2, cells_at hs5.block 3, cells_at hs5.block 4⟩
        have hfin : SpaceAt TNode TSp (W4.alloc (.cells #[.slice (some ⟨g, 0, none⟩) lv.length cap, .slice a4 (ls.length + 1) k4] TSp)) W4.heap.size { S with snaps := S.snaps.insertIdx (free S.snaps) ⟨free S.snaps, ten, v, m⟩ } := by
          refine ⟨lv, ls.insertIdx (free S.snaps) (⟨free S.snaps, ten, v, m⟩, .pointer q), HM.out.1, by rw [insertIdx_map_fst, HM.out.2.1], SpAt.mk' (heap_alloc_new _ _) (HM.out.2.2.1.below hbw5) ?_ (HM.out.2.2.2.1.below hbw5) (ElsAt.insert (HM.out.2.2.2.2.1.below hbw5) (NodeAt.below hbw5 HM.out.2.2.2.2.2))⟩
          have hr := (RowsAt.own h4.out.2 (by omega)).below hb45
          rw [List.length_insertIdx_of_le_length HFR.out, flat_insert snapE_len _ _ _ HFR.out]
          exact hr
        have HFIN := Lib.hid (And.intro hbw5 hfin)
        generalize W4.alloc (.cells #[.slice (some ⟨g, 0, none⟩) lv.length cap, .slice a4 (ls.length + 1) k4] TSp) = W5 at hS5 HFIN ⊢
        generalize W4.heap.size = B7 at HFIN ⊢
        refine ⟨hS5, ?_⟩
        simp only [List.setIfInBounds_toArray, List.set_cons_succ, List.set_cons_zero]
        (apply reg_take 12 rfl rfl (by decide +kernel) rfl); (rintro w' ⟨h1, h2, h3, h4, h5, h6⟩; go_simp; rfl); exact hS5; simp only [List.setIfInBounds_toArray, List.set_cons_succ, List.set_cons_zero]
        (apply reg_take 13 rfl rfl (by decide +kernel) rfl); (rintro w' ⟨h1, h2, h3, h4, h5, h6⟩; go_simp; rfl); exact hS5; simp only [List.setIfInBounds_toArray, List.set_cons_succ, List.set_cons_zero]
        (apply reg_take 14 rfl rfl (by decide +kernel) rfl); (rintro w' ⟨h1, h2, h3, h4, h5, h6⟩; go_simp; rfl); exact hS5; simp only [List.setIfInBounds_toArray, List.set_cons_succ, List.set_cons_zero]
        refine reg_done (by decide +kernel) ?_
        clear hS4 hS5 hbw hbw4 h4 hva hfin hbw5 hb45 hs5
        go_wp2
        refine bodyPost_ret (v := .tuple #[.pointer (some ⟨B7, 0, none⟩), .int .i64 (free S.snaps : Int), .int .i64 0]) (by simp [results, Tryz.results24, go_sem]) rfl ?_
        rw [HRES.out]
        exact ⟨_, rfl, HFIN.out.1, B7, rfl, HFIN.out.2⟩
      · have hbw2 := ((H1.out.1.drew).below_of H1.out.2.drew)
        have hA := H1.out.2.drew.alloc (.cells #[.int .i64 (free S.snaps : Int), .int .i64 ten, .pointer q, .int .i64 (cnt m : Int), .int .i64 v] TSnap)
        have hbw3 := hbw2.alloc hbw2.size (.cells #[.int .i64 (free S.snaps : Int), .int .i64 ten, .pointer q, .int .i64 (cnt m : Int), .int .i64 v] TSnap)
        have hS3 : (w1.drew.alloc (.cells #[.int .i64 (free S.snaps : Int), .int .i64 ten, .pointer q, .int .i64 (cnt m : Int), .int .i64 v] TSnap)).cell? ⟨p, 1, none⟩ = some (.slice so ls.length scap) ∧ (w1.drew.alloc (.cells #[.int .i64 (free S.snaps : Int), .int .i64 ten, .pointer q, .int .i64 (cnt m : Int), .int .i64 v] TSnap)).cell? ⟨B9, 0, none⟩ = some (.int .i64 (free S.snaps : Int)) ∧ (w1.drew.alloc (.cells #[.int .i64 (free S.snaps : Int), .int .i64 ten, .pointer q, .int .i64 (cnt m : Int), .int .i64 v] TSnap)).cell? ⟨B9, 1, none⟩ = some (.int .i64 ten) ∧ (w1.drew.alloc (.cells #[.int .i64 (free S.snaps : Int), .int .i64 ten, .pointer q, .int .i64 (cnt m : Int), .int .i64 v] TSnap)).cell? ⟨B9, 2, none⟩ = some (.pointer q) ∧ (w1.drew.alloc (.cells #[.int .i64 (free S.snaps : Int), .int .i64 ten, .pointer q, .int .i64 (cnt m : Int), .int .i64 v] TSnap)).cell? ⟨B9, 3, none⟩ = some (.int .i64 (cnt m : Int)) ∧ (w1.drew.alloc (.cells #[.int .i64 (free S.snaps : Int), .int .i64 ten, .pointer q, .int .i64 (cnt m : Int), .int .i64 v] TSnap)).cell? ⟨B9, 4, none⟩ = some (.int .i64 v) := ⟨(hbw3.cell (p := ⟨p, 1, none⟩) HPL.out).trans HC1.out, cells_at hA.right.block 0, cells_at hA.right.block 1, cells_at hA.right.block 2, cells_at hA.right.block 3, cells_at hA.right.block 4⟩
        refine rstep_run (.slice (some ⟨w1.drew.heap.size, 0, none⟩) 1 1) (w1.drew.alloc (.cells #[.int .i64 (free S.snaps : Int), .int .i64 ten, .pointer q, .int .i64 (cnt m : Int), .int .i64 v] TSnap)) rfl rfl (by decide +kernel) rfl (by go_simp) hS3 ?_
        simp only [List.setIfInBounds_toArray, List.set_cons_succ, List.set_cons_zero]
        replace H1 := Lib.hid (And.intro ((H1.out.1.drew).alloc (.cells #[.int .i64 (free S.snaps : Int), .int .i64 ten, .pointer q, .int .i64 (cnt m : Int), .int .i64 v] TSnap)) hA)
        clear hS3 hbw2 hA hS0
        generalize w1.drew.alloc (.cells #[.int .i64 (free S.snaps : Int), .int .i64 ten, .pointer q, .int .i64 (cnt m : Int), .int .i64 v] TSnap) = W2 at H1 hbw3 ⊢
        generalize w1.drew.heap.size = vb at H1 ⊢
        refine reg_call 5 rfl rfl (by decide +kernel) rfl (f := 68) (args := #[.slice so ls.length scap]) (R := fun v1 w' => ∃ a c, v1 = .slice a ls.length c ∧ Hid (Same w w' ∧ Sat w' (ownAt TSnap 5 (.slice a ls.length c) ls.length (ls.flatMap snapE) * (pts vb (.cells #[.int .i64 (free S.snaps : Int), .int .i64 ten, .pointer q, .int .i64 (cnt m : Int), .int .i64 v] TSnap (0, 0)) * (pts B9 (.cells #[.int .i64 (free S.snaps : Int), .int .i64 ten, .pointer q, .int .i64 (cnt m : Int), .int .i64 v] TSnap (0, 0)) * old w))))) (by kernel_rfl)
          ((HCL.out W2 (pts vb (.cells #[.int .i64 (free S.snaps : Int), .int .i64 ten, .pointer q, .int .i64 (cnt m : Int), .int .i64 v] TSnap (0, 0)) * (pts B9 (.cells #[.int .i64 (free S.snaps : Int), .int .i64 ten, .pointer q, .int .i64 (cnt m : Int), .int .i64 v] TSnap (0, 0)) * old w)) hbw3 H1.out.2).mono fun e w' h => by
            obtain ⟨v', rfl, h1, h2⟩ := h
            obtain ⟨a, c, rfl⟩ := ownAt_slice h2
            exact ⟨_, rfl, a, c, rfl, H1.out.1.trans h1, h2⟩) ?_
        rintro _ W3 ⟨a1, k1, rfl, h2⟩
        replace H1 := Lib.hid h2.out
        clear h2 hbw3
        have hbw := H1.out.1.below_of (H1.out.2.perm (show _ = (ownAt TSnap 5 (.slice a1 ls.length k1) ls.length (ls.flatMap snapE) * (pts vb (.cells #[.int .i64 (free S.snaps : Int), .int .i64 ten, .pointer q, .int .i64 (cnt m : Int), .int .i64 v] TSnap (0, 0)) * pts B9 (.cells #[.int .i64 (free S.snaps : Int), .int .i64 ten, .pointer q, .int .i64 (cnt m : Int), .int .i64 v] TSnap (0, 0)))) * old w from by ac_rfl))
        have hS3 : W3.cell? ⟨p, 1, none⟩ = some (.slice so ls.length scap) ∧ W3.cell? ⟨B9, 0, none⟩ = some (.int .i64 (free S.snaps : Int)) ∧ W3.cell? ⟨B9, 1, none⟩ = some (.int .i64 ten) ∧ W3.cell? ⟨B9, 2, none⟩ = some (.pointer q) ∧ W3.cell? ⟨B9, 3, none⟩ = some (.int .i64 (cnt m : Int)) ∧ W3.cell? ⟨B9, 4, none⟩ = some (.int .i64 v) := ⟨(hbw.cell (p := ⟨p, 1, none⟩) HPL.out).trans HC1.out, cells_at H1.out.2.right.right.block 0, cells_at H1.out.2.right.right.block 1, cells_at H1.out.2.right.right.block 2, cells_at H1.out.2.right.right.block 3, cells_at H1.out.2.right.right.block 4⟩
        refine ⟨hS3, ?_⟩
        clear hbw hS3
        simp only [List.setIfInBounds_toArray, List.set_cons_succ, List.set_cons_zero]
        have hbw := H1.out.1.below_of (H1.out.2.perm (show _ = (ownAt TSnap 5 (.slice a1 ls.length k1) ls.length (ls.flatMap snapE) * (pts vb (.cells #[.int .i64 (free S.snaps : Int), .int .i64 ten, .pointer q, .int .i64 (cnt m : Int), .int .i64 v] TSnap (0, 0)) * pts B9 (.cells #[.int .i64 (free S.snaps : Int), .int .i64 ten, .pointer q, .int .i64 (cnt m : Int), .int .i64 v] TSnap (0, 0)))) * old w from by ac_rfl))
        refine reg_call 9 rfl rfl (by decide +kernel) rfl (f := 67) (args := #[.slice a1 ls.length k1, .int .i64 (free S.snaps : Int), .slice (some ⟨vb, 0, none⟩) 1 1]) (R := fun v1 w' => ∃ a c, v1 = .slice a (ls.length + 1) c ∧ Hid (Same w w' ∧ Sat w' (ownAt TSnap 5 (.slice a (ls.length + 1) c) (ls.length + 1) ((ls.flatMap snapE).take (free S.snaps * 5) ++ #[.int .i64 (free S.snaps : Int), .int .i64 ten, .pointer q, .int .i64 (cnt m : Int), .int .i64 v].toList ++ (ls.flatMap snapE).drop (free S.snaps * 5)) * (pts vb (.cells #[.int .i64 (free S.snaps : Int), .int .i64 ten, .pointer q, .int .i64 (cnt m : Int), .int .i64 v] TSnap (0, 0)) * (pts B9 (.cells #[.int .i64 (free S.snaps : Int), .int .i64 ten, .pointer q, .int .i64 (cnt m : Int), .int .i64 v] TSnap (0, 0)) * old w))))) (by kernel_rfl)
          ((inssnap_any (.slice a1 ls.length k1) ls.length (free S.snaps) (ls.flatMap snapE) #[.int .i64 (free S.snaps : Int), .int .i64 ten, .pointer q, .int .i64 (cnt m : Int), .int .i64 v].toList vb (pts B9 (.cells #[.int .i64 (free S.snaps : Int), .int .i64 ten, .pointer q, .int .i64 (cnt m : Int), .int .i64 v] TSnap (0, 0)) * old w) W3 HFR.out HN.out H1.out.2 rfl HO5.out (by intro u hu; simp at hu; rcases hu with rfl | rfl | rfl | rfl | rfl <;> rfl)).mono fun e w' h => by
            obtain ⟨s', rfl, h1, h2⟩ := h
            obtain ⟨a, c, rfl⟩ := ownAt_slice h2
            exact ⟨_, rfl, a, c, rfl, H1.out.1.trans h1, h2⟩) ?_
        rintro _ W4 ⟨a4, k4, rfl, h4⟩
        have hbw4 := h4.out.1.below_of (h4.out.2.perm (show _ = (ownAt TSnap 5 (.slice a4 (ls.length + 1) k4) (ls.length + 1) ((ls.flatMap snapE).take (free S.snaps * 5) ++ #[.int .i64 (free S.snaps : Int), .int .i64 ten, .pointer q, .int .i64 (cnt m : Int), .int .i64 v].toList ++ (ls.flatMap snapE).drop (free S.snaps * 5)) * (pts vb (.cells #[.int .i64 (free S.snaps : Int), .int .i64 ten, .pointer q, .int .i64 (cnt m : Int), .int .i64 v] TSnap (0, 0)) * pts B9 (.cells #[.int .i64 (free S.snaps : Int), .int .i64 ten, .pointer q, .int .i64 (cnt m : Int), .int .i64 v] TSnap (0, 0)))) * old w from by ac_rfl))
        have hS4 : W4.cell? ⟨p, 1, none⟩ = some (.slice so ls.length scap) ∧ W4.cell? ⟨B9, 0, none⟩ = some (.int .i64 (free S.snaps : Int)) ∧ W4.cell? ⟨B9, 1, none⟩ = some (.int .i64 ten) ∧ W4.cell? ⟨B9, 2, none⟩ = some (.pointer q) ∧ W4.cell? ⟨B9, 3, none⟩ = some (.int .i64 (cnt m : Int)) ∧ W4.cell? ⟨B9, 4, none⟩ = some (.int .i64 v) := ⟨(hbw4.cell (p := ⟨p, 1, none⟩) HPL.out).trans HC1.out, cells_at h4.out.2.right.right.block 0, cells_at h4.out.2.right.right.block 1, cells_at h4.out.2.right.right.block 2, cells_at h4.out.2.right.right.block 3, cells_at h4.out.2.right.right.block 4⟩
        refine ⟨hS4, ?_⟩
        simp only [List.setIfInBounds_toArray, List.set_cons_succ, List.set_cons_zero]
        have hva := snapshotsAre_any p (.slice (some ⟨g, 0, none⟩) lv.length cap) (.slice so ls.length scap) a4 (ls.length + 1) k4 W4 rfl ⟨_, _, _, rfl⟩ (by rw [hbw4.block p HPL.out]; exact HP.out)
        refine reg_call 10 rfl rfl (by decide +kernel) rfl (f := 66) (args := #[.pointer (some ⟨p, 0, none⟩), .slice a4 (ls.length + 1) k4]) (R := fun v1 w' => v1 = .pointer (some ⟨W4.heap.size, 0, none⟩) ∧ w' = W4.alloc (.cells #[.slice (some ⟨g, 0, none⟩) lv.length cap, .slice a4 (ls.length + 1) k4] TSp)) (by kernel_rfl) (hva.mono fun e w' h => ⟨_, h.1, rfl, h.2⟩) ?_
        rintro _ _ ⟨rfl, rfl⟩
        have hbw5 := hbw4.alloc hbw4.size (.cells #[.slice (some ⟨g, 0, none⟩) lv.length cap, .slice a4 (ls.length + 1) k4] TSp)
        have hb45 := (Below.refl W4.heap.size W4).alloc (Nat.le_refl _) (.cells #[.slice (some ⟨g, 0, none⟩) lv.length cap, .slice a4 (ls.length + 1) k4] TSp)
        have hs5 := h4.out.2.right.right.allocKeep (.cells #[.slice (some ⟨g, 0, none⟩) lv.length cap, .slice a4 (ls.length + 1) k4] TSp)
        have hS5 : (W4.alloc (.cells #[.slice (some ⟨g, 0, none⟩) lv.length cap, .slice a4 (ls.length + 1) k4] TSp)).cell? ⟨p, 1, none⟩ = some (.slice so ls.length scap) ∧ (W4.alloc (.cells #[.slice (some ⟨g, 0, none⟩) lv.length cap, .slice a4 (ls.length + 1) k4] TSp)).cell? ⟨B9, 0, none⟩ = some (.int .i64 (free S.snaps : Int)) ∧ (W4.alloc (.cells #[.slice (some ⟨g, 0, none⟩) lv.length cap, .slice a4 (ls.length + 1) k4] TSp)).cell? ⟨B9, 1, none⟩ = some (.int .i64 ten) ∧ (W4.alloc (.cells #[.slice (some ⟨g, 0, none⟩) lv.length cap, .slice a4 (ls.length + 1) k4] TSp)).cell? ⟨B9, 2, none⟩ = some (.pointer q) ∧ (W4.alloc (.cells #[.slice (some ⟨g, 0, none⟩) lv.length cap, .slice a4 (ls.length + 1) k4] TSp)).cell? ⟨B9, 3, none⟩ = some (.int .i64 (cnt m : Int)) ∧ (W4.alloc (.cells #[.slice (some ⟨g, 0, none⟩) lv.length cap, .slice a4 (ls.length + 1) k4] TSp)).cell? ⟨B9, 4, none⟩ = some (.int .i64 v) := ⟨(hbw5.cell (p := ⟨p, 1, none⟩) HPL.out).trans HC1.out, cells_at hs5.block 0, cells_at hs5.block 1, cells_at hs5.block 2, cells_at hs5.block 3, cells_at hs5.block 4⟩
        have hfin : SpaceAt TNode TSp (W4.alloc (.cells #[.slice (some ⟨g, 0, none⟩) lv.length cap, .slice a4 (ls.length + 1) k4] TSp)) W4.heap.size { S with snaps := S.snaps.insertIdx (free S.snaps) ⟨free S.snaps, ten, v, m⟩ } := by
          refine ⟨lv, ls.insertIdx (free S.snaps) (⟨free S.snaps, ten, v, m⟩, .pointer q), HM.out.1, by rw [insertIdx_map_fst, HM.out.2.1], SpAt.mk' (heap_alloc_new _ _) (HM.out.2.2.1.below hbw5) ?_ (HM.out.2.2.2.1.below hbw5) (ElsAt.insert (HM.out.2.2.2.2.1.below hbw5) (NodeAt.below hbw5 HM.out.2.2.2.2.2))⟩
          have hr := (RowsAt.own h4.out.2 (by omega)).below hb45
          rw [List.length_insertIdx_of_le_length HFR.out, flat_insert snapE_len _ _ _ HFR.out]
          exact hr
        have HFIN := Lib.hid (And.intro hbw5 hfin)
        generalize W4.alloc (.cells #[.slice (some ⟨g, 0, none⟩) lv.length cap, .slice a4 (ls.length + 1) k4] TSp) = W5 at hS5 HFIN ⊢
        generalize W4.heap.size = B7 at HFIN ⊢
        refine ⟨hS5, ?_⟩
        simp only [List.setIfInBounds_toArray, List.set_cons_succ, List.set_cons_zero]
        (apply reg_take 12 rfl rfl (by decide +kernel) rfl); (rintro w' ⟨h1, h2, h3, h4, h5, h6⟩; go_simp; rfl); exact hS5; simp only [List.setIfInBounds_toArray, List.set_cons_succ, List.set_cons_zero]
        (apply reg_take 13 rfl rfl (by decide +kernel) rfl); (rintro w' ⟨h1, h2, h3, h4, h5, h6⟩; go_simp; rfl); exact hS5; simp only [List.setIfInBounds_toArray, List.set_cons_succ, List.set_cons_zero]
        (apply reg_take 14 rfl rfl (by decide +kernel) rfl); (rintro w' ⟨h1, h2, h3, h4, h5, h6⟩; go_simp; rfl); exact hS5; simp only [List.setIfInBounds_toArray, List.set_cons_succ, List.set_cons_zero]
        refine reg_done (by decide +kernel) ?_
        clear hS4 hS5 hbw hbw4 h4 hva hfin hbw5 hb45 hs5
        go_wp2
        refine bodyPost_ret (v := .tuple #[.pointer (some ⟨B7, 0, none⟩), .int .i64 (free S.snaps : Int), .int .i64 0]) (by simp [results, Tryz.results24, go_sem]) rfl ?_
        rw [HRES.out]
        exact ⟨_, rfl, HFIN.out.1, B7, rfl, HFIN.out.2⟩
end Go.Proofs.YtednjhlkhecihaaGreatDoor
