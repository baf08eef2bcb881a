/- shelf.Kill, Replace, Insert, Remove. -/
import Derived.Test.YtogmkbhbmmgidaaSw
import Derived.Test.YtogmkbhbmmgidaaSu
import Derived.Test.YtogmkbhbmmgidaaDn
namespace Go.Proofs.Ytogmkbhbmmgidaa
open Go.RowKit Go.Sl Go.ChangeMaps

theorem want_zero {S : ShelfM} {d : Int} {inn : Bool} {er : Int} (her : er ≠ 0) : S.want d inn er = 0 ↔ S.state d ≠ 0 ∧ decide (S.state d = 1) = inn := by
  unfold ShelfM.want
  by_cases h0 : S.state d = 0
  · simp [h0]
  · rw [if_neg h0]
    by_cases h1 : decide (S.state d = 1) = inn
    · rw [if_neg (by simp [h1])]; simp [h0, h1]
    · rw [if_pos h1]; simp [h0, h1, her]

set_option maxHeartbeats 400000 in
theorem kill_any (p : Nat) (S : ShelfM) (F : HProp) (d : Int) (w : World) (hS : Sat w (shelfAt SH p S * F)) :
    Calls Try.prog 61 #[.pointer (some ⟨p, 0, none⟩), .int .i64 d] w fun e w' => e = .returned (.int .i64 (S.kill d).2) ∧ Hid (Same w w' ∧ Sat w' (shelfAt SH p (S.kill d).1 * F)) := by
  have hwf := shelfAt_wf hS
  have hwant := want_any p S F d true 15 w hS
  have hk : S.kill d = if S.want d true 15 = 0 then (S.setBay d ⟨S.disk d, 3⟩, 0) else (S, S.want d true 15) := rfl
  have HS := Lib.hid hS
  obtain ⟨x, hx⟩ : ∃ x, S.want d true 15 = x := ⟨_, rfl⟩
  rw [hx] at hk hwant
  by_cases h0 : x = 0
  · subst h0
    rw [if_pos rfl] at hk
    rw [hk]
    have h1 := (want_zero (by decide)).1 hx
    have hin := ShelfM.state_in hwf h1.1
    obtain ⟨k, rfl⟩ := Int.eq_ofNat_of_zero_le hin.1
    have hkl := hin.2
    obtain ⟨vb, vi, ps, qs, q, R, ⟨_, hl1, hl2⟩, hq, hs, hR⟩ := shelf_open hS (d := k) (by omega)
    obtain ⟨⟨q6, q7, q8, q9, q10⟩, hp, hfp, hra⟩ := shelf_cells hs
    have hs2 := hs.perm (show _ = ownAt TBay 2 vb S.bays.length (baysL ps S.bays) * (pts p (.cells (shelfC S.cfg vb vi S.off S.fused S.left) TSh (0, 0)) * (ownAt TPtr 1 vi S.images.length (qs.map ptrV) *
        (diskAt TD TS q (S.disk k) * (R * (disksAt TD TS qs S.images * F))))) from by ac_rfl)
    obtain ⟨g, cap, cur, rfl, hg, hc, hf, hgs, _⟩ := ownAt_block hs2 (by omega)
    have hb := ShelfM.bay_of (S := S) hin.1 hin.2
    have hcell := baysL_at ps S.bays k q _ hq (by simpa using hb)
    have b1 := hc _ _ hcell.2
    have b0 := hc _ _ hcell.1
    have hf1 := hf (k * 2 + 1)
    have hfin := ownAt_set hs2 (by omega) rfl (j := k * 2 + 1) (.int .i64 3)
    have hfin2 : Sat (w.setCell ⟨g, k * 2 + 1, none⟩ (.int .i64 3)) (shelfAt SH p (S.setBay k ⟨S.disk k, 3⟩) * F) := by
      refine shelf_put (T := SH) (.slice (some ⟨g, 0, none⟩) S.bays.length cap) vi (d := k) (q' := q) (b := ⟨S.disk k, 3⟩) hl1 hl2 hR (hwf.setBay _ ⟨.inr (.inr rfl), fun h => by simp at h⟩) rfl rfl rfl ?_
      rw [set_self hcell.1]
      exact hfin.perm (by simp only [ShelfM.setBay]; ac_rfl)
    have HF := Lib.hid hfin2
    obtain ⟨n, hnn⟩ : ∃ n, S.bays.length = n := ⟨_, rfl⟩
    rw [hnn] at q6 hkl
    clear hs hs2 hS hwf hk hx h1 hin hfp hra hl1 hl2 hq hc hf hgs hb hcell hfin hfin2 hnn hR
    go_enter Try.func61, Try.ntmps61
    go_wp2_with (go_at_call 55; refine hwant.mono ?_; rintro e w' ⟨rfl, rfl⟩; clear hwant)
    go_ret
    exact ⟨rfl, (Same.refl w).setCell _ _, HF.out⟩
  · rw [if_neg h0] at hk
    rw [hk]
    have hxb : (x == 0) = false := by simp [h0]
    clear hk h0 hS hwf hx
    go_enter Try.func61, Try.ntmps61
    go_wp2_with (go_at_call 55; refine hwant.mono ?_; rintro e w' ⟨rfl, rfl⟩; clear hwant)
    go_ret
    exact ⟨rfl, Same.refl w, HS.out⟩

set_option maxRecDepth 100000 in
set_option maxHeartbeats 1000000 in
theorem replace_any (p : Nat) (S : ShelfM) (F : HProp) (d : Int) (w : World) (hS : Sat w (shelfAt SH p S * F)) :
    Calls Try.prog 62 #[.pointer (some ⟨p, 0, none⟩), .int .i64 d] w fun e w' => e = .returned (.int .i64 (S.replace d).2) ∧ Hid (Same w w' ∧ Sat w' (shelfAt SH p (S.replace d).1 * F)) := by
  have hwf := shelfAt_wf hS
  have hwant := want_any p S F d false 19 w hS
  have hk : S.replace d = if S.want d false 19 = 0 then (S.setBay d ⟨DiskM.new S.cfg.sectors, 1⟩, 0) else (S, S.want d false 19) := rfl
  have HS := Lib.hid hS
  obtain ⟨x, hx⟩ : ∃ x, S.want d false 19 = x := ⟨_, rfl⟩
  rw [hx] at hk hwant
  by_cases h0 : x = 0
  · subst h0
    rw [if_pos rfl] at hk
    rw [hk]
    have h1 := (want_zero (by decide)).1 hx
    have hin := ShelfM.state_in hwf h1.1
    obtain ⟨k, rfl⟩ := Int.eq_ofNat_of_zero_le hin.1
    have hkl := hin.2
    obtain ⟨vb, vi, ps, qs, q, R, ⟨_, hl1, hl2⟩, hq, hs, hR⟩ := shelf_open hS (d := k) (by omega)
    obtain ⟨⟨q6, q7, q8, q9, q10⟩, hp, hfp, hra⟩ := shelf_cells hs
    have hs2 := hs.perm (show _ = ownAt TBay 2 vb S.bays.length (baysL ps S.bays) * (pts p (.cells (shelfC S.cfg vb vi S.off S.fused S.left) TSh (0, 0)) * (ownAt TPtr 1 vi S.images.length (qs.map ptrV) *
        (diskAt TD TS q (S.disk k) * (R * (disksAt TD TS qs S.images * F))))) from by ac_rfl)
    obtain ⟨g, cap, cur, rfl, hg, hc, hf, hgs, _⟩ := ownAt_block hs2 (by omega)
    have hb := ShelfM.bay_of (S := S) hin.1 hin.2
    have hcell := baysL_at ps S.bays k q _ hq (by simpa using hb)
    have htw : ∀ (w' : World) (Y X : HProp), Sat w' (Y * (ownAt TBay 2 (.slice (some ⟨g, 0, none⟩) S.bays.length cap) S.bays.length (baysL ps S.bays) * X)) → w'.there g (0 + k * 2) 2 := by
      intro w' Y X h j hj
      replace h := h.right
      obtain ⟨g', cap', cur', hv, _, hc', hf', _⟩ := ownAt_block h (by omega)
      simp only [Value.slice.injEq, Option.some.injEq, Addr.mk.injEq, and_true, true_and] at hv
      obtain ⟨rfl, rfl⟩ := hv
      refine ⟨?_, hf' _⟩
      rcases (show j = 0 ∨ j = 1 by omega) with rfl | rfl
      · rw [show 0 + k * 2 + 0 = k * 2 by omega, hc' _ _ hcell.1]; rfl
      · rw [show 0 + k * 2 + 1 = k * 2 + 1 by omega, hc' _ _ hcell.2]; rfl
    have hcfg : ∀ (w' : World) (X : HProp), Sat w' (pts p (.cells (shelfC S.cfg (.slice (some ⟨g, 0, none⟩) S.bays.length cap) vi S.off S.fused S.left) TSh (0, 0)) * X) → w'.cell? ⟨p, 6, none⟩ = some (.slice (some ⟨g, 0, none⟩) S.bays.length cap) ∧ w'.rangeAt p 0 (cfgL S.cfg) :=
      fun w' X h => let r := shelf_cells h; ⟨r.1.1, r.2.2.2⟩
    have HTW := Lib.hid htw
    have HCFG := Lib.hid hcfg
    have HR := Lib.hid hR
    have HWF := Lib.hid hwf
    have HSS := Lib.hid hs
    have HL := Lib.hid (And.intro hl1 hl2)
    obtain ⟨tib, htib⟩ : ∃ ti, Try.prog.info? TBay = some ti ∧ ti.size = 2 := by have := infoBay (ptrV 0) (ptrV 0); obtain ⟨ti, h1, h2⟩ := Option.map_eq_some_iff.1 this; exact ⟨ti, h1, h2⟩
    have htb := htib.1
    have htb2 := htib.2
    have ht0 := htw _ _ _ hs
    have c0 := hcfg _ _ hs
    clear hs hs2 hS hwf hk hx h1 hin hfp hra hl1 hl2 hq hc hf hgs hb hcell hR htw hcfg htib
    go_enter Try.func62, Try.ntmps62
    go_upto_region 3 with (go_at_call 55; refine hwant.mono ?_; rintro e w' ⟨rfl, rfl⟩; clear hwant)
    have hS0 : w.drew.cell? ⟨p, 6, none⟩ = some (.slice (some ⟨g, 0, none⟩) S.bays.length cap) ∧ w.drew.rangeAt p 0 (cfgL S.cfg) ∧ w.drew.there g (0 + k * 2) 2 := ⟨c0.1, c0.2, ht0⟩
    refine reg_begin (fun w' => w'.cell? ⟨p, 6, none⟩ = some (.slice (some ⟨g, 0, none⟩) S.bays.length cap) ∧ w'.rangeAt p 0 (cfgL S.cfg) ∧ w'.there g (0 + k * 2) 2) (by kernel_rfl) ?_
    (apply reg_take 0 rfl rfl (by decide +kernel) rfl); (rintro w' ⟨h1, h2, h3⟩; go_simp; rfl); exact hS0; simp only [List.setIfInBounds_toArray, List.set_cons_succ, List.set_cons_zero]
    (apply reg_take 1 rfl rfl (by decide +kernel) rfl); (rintro w' ⟨h1, h2, h3⟩; go_simp; rfl); exact hS0; simp only [List.setIfInBounds_toArray, List.set_cons_succ, List.set_cons_zero]
    (apply reg_take 2 rfl rfl (by decide +kernel) rfl); (rintro w' ⟨h1, h2, h3⟩; go_simp; rfl); exact hS0; simp only [List.setIfInBounds_toArray, List.set_cons_succ, List.set_cons_zero]
    (apply reg_take 3 rfl rfl (by decide +kernel) rfl); (rintro w' ⟨h1, h2, h3⟩; go_simp; rfl); exact hS0; simp only [List.setIfInBounds_toArray, List.set_cons_succ, List.set_cons_zero]
    (apply reg_take 4 rfl rfl (by decide +kernel) rfl); (rintro w' ⟨h1, h2, h3⟩; go_simp; rfl); exact hS0; simp only [List.setIfInBounds_toArray, List.set_cons_succ, List.set_cons_zero]
    (apply reg_take 5 rfl rfl (by decide +kernel) rfl); (rintro w' ⟨h1, h2, h3⟩; go_simp; rfl); exact hS0; simp only [List.setIfInBounds_toArray, List.set_cons_succ, List.set_cons_zero]
    (apply reg_take 6 rfl rfl (by decide +kernel) rfl); (rintro w' ⟨h1, h2, h3⟩; go_simp; rfl); exact hS0; simp only [List.setIfInBounds_toArray, List.set_cons_succ, List.set_cons_zero]
    (apply reg_take 7 rfl rfl (by decide +kernel) rfl); (rintro w' ⟨h1, h2, h3⟩; go_simp; rfl); exact hS0; simp only [List.setIfInBounds_toArray, List.set_cons_succ, List.set_cons_zero]
    refine reg_take 8 (v := .agg (cfgA S.cfg)) rfl rfl (by decide +kernel) rfl (fun w' h => exec_load rfl rfl (load_cfg h.2.1)) hS0 ?_; simp only [List.setIfInBounds_toArray, List.set_cons_succ, List.set_cons_zero]
    refine reg_call 9 rfl rfl (by decide +kernel) rfl (f := 31) (args := #[.agg (cfgA S.cfg)]) (R := fun v w' => v = .int .i64 S.cfg.sectors ∧ Hid (Below w.heap.size w w')) (by kernel_rfl) ((sectors_any S.cfg w.drew (by have := HWF.out.cfg.log; omega) (by have := HWF.out.cfg.image; omega) (by have := HWF.out.cfg.rows; omega)).mono fun e w' h => ⟨_, h.1, rfl, ⟨h.2.os, h.2.tape, h.2.output, h.2.size, h.2.block⟩⟩) ?_
    rintro _ w1 ⟨rfl, hb1⟩
    have H1 := Lib.hid (And.intro ((Same.refl w).below hb1.out) (HSS.out.below hb1.out))
    have hS1 : w1.cell? ⟨p, 6, none⟩ = some (.slice (some ⟨g, 0, none⟩) S.bays.length cap) ∧ w1.rangeAt p 0 (cfgL S.cfg) ∧ w1.there g (0 + k * 2) 2 := ⟨(HCFG.out _ _ H1.out.2).1, (HCFG.out _ _ H1.out.2).2, HTW.out _ _ _ H1.out.2⟩
    refine ⟨hS1, ?_⟩
    simp only [List.setIfInBounds_toArray, List.set_cons_succ, List.set_cons_zero]
    refine reg_call 10 rfl rfl (by decide +kernel) rfl (f := 32) (args := #[.int .i64 S.cfg.sectors]) (R := fun v w' => ∃ q', v = .pointer (some ⟨q', 0, none⟩) ∧ Hid (Same w w' ∧ Sat w' (pts p (.cells (shelfC S.cfg (.slice (some ⟨g, 0, none⟩) S.bays.length cap) vi S.off S.fused S.left) TSh (0, 0)) * (ownAt TBay 2 (.slice (some ⟨g, 0, none⟩) S.bays.length cap) S.bays.length (baysL ps S.bays) * (ownAt TPtr 1 vi S.images.length (qs.map ptrV) *
        (diskAt TD TS q' (DiskM.new S.cfg.sectors) * (R * (disksAt TD TS qs S.images * F)))))))) (by kernel_rfl)
      ((new_any S.cfg.sectors _ w1 H1.out.2).mono fun e w' h => by
        obtain ⟨q', rfl, h1, h2⟩ := h
        exact ⟨_, rfl, q', rfl, H1.out.1.trans h1, (h2.perm (show _ = diskAt TD TS q (S.disk k) * (pts p (.cells (shelfC S.cfg (.slice (some ⟨g, 0, none⟩) S.bays.length cap) vi S.off S.fused S.left) TSh (0, 0)) * (ownAt TBay 2 (.slice (some ⟨g, 0, none⟩) S.bays.length cap) S.bays.length (baysL ps S.bays) * (ownAt TPtr 1 vi S.images.length (qs.map ptrV) *
        (diskAt TD TS q' (DiskM.new S.cfg.sectors) * (R * (disksAt TD TS qs S.images * F)))))) from by ac_rfl)).right⟩) ?_
    rintro _ w2 ⟨q', rfl, h2⟩
    have hS2 : w2.cell? ⟨p, 6, none⟩ = some (.slice (some ⟨g, 0, none⟩) S.bays.length cap) ∧ w2.rangeAt p 0 (cfgL S.cfg) ∧ w2.there g (0 + k * 2) 2 := ⟨(HCFG.out _ _ h2.out.2).1, (HCFG.out _ _ h2.out.2).2, HTW.out _ _ _ h2.out.2⟩
    refine ⟨hS2, ?_⟩
    simp only [List.setIfInBounds_toArray, List.set_cons_succ, List.set_cons_zero]
    (apply reg_take 11 rfl rfl (by decide +kernel) rfl); (rintro w' ⟨h1, h2, h3⟩; go_simp; rfl); exact hS2; simp only [List.setIfInBounds_toArray, List.set_cons_succ, List.set_cons_zero]
    refine reg_take 12 (v := .pointer (some ⟨g, 0 + k * 2, none⟩)) rfl rfl (by decide +kernel) rfl (fun _ _ => exec_index_slice rfl rfl rfl Try.underlying72 htb htb2 (by omega)) hS2 ?_; simp only [List.setIfInBounds_toArray, List.set_cons_succ, List.set_cons_zero]
    refine reg_do_last 13 (w2.setCells g (0 + k * 2) [ptrV q', .int .i64 1]) rfl rfl (by decide +kernel) rfl (exec_store_row (new := #[ptrV q', .int .i64 1]) rfl rfl rfl (infoBay _ _) hS2.2.2 (by simp [ptrV, Value.oneCell'])) ?_
    go_wp2
    go_ret
    refine ⟨rfl, Same.setCells _ h2.out.1, ?_⟩
    have hs3 := h2.out.2.perm (show _ = ownAt TBay 2 (.slice (some ⟨g, 0, none⟩) S.bays.length cap) S.bays.length (baysL ps S.bays) * (pts p (.cells (shelfC S.cfg (.slice (some ⟨g, 0, none⟩) S.bays.length cap) vi S.off S.fused S.left) TSh (0, 0)) * (ownAt TPtr 1 vi S.images.length (qs.map ptrV) *
        (diskAt TD TS q' (DiskM.new S.cfg.sectors) * (R * (disksAt TD TS qs S.images * F))))) from by ac_rfl)
    have hs4 := ownAt_set (ownAt_set hs3 (by omega) rfl (j := k * 2) (ptrV q')) (by omega) rfl (j := k * 2 + 1) (.int .i64 1)
    refine shelf_put (T := SH) (.slice (some ⟨g, 0, none⟩) S.bays.length cap) vi (d := k) (q' := q') (b := ⟨DiskM.new S.cfg.sectors, 1⟩) HL.out.1 HL.out.2 HR.out (HWF.out.setBay _ ⟨.inl rfl, fun _ => ?_⟩) rfl rfl rfl ?_
    · have := HWF.out.cfg.small; have := HWF.out.cfg.log; have := HWF.out.cfg.image; have := HWF.out.cfg.rows
      show (((min (max S.cfg.sectors 0) 65536).toNat : Nat) : Int) = S.cfg.sectors
      unfold CfgM.sectors at *
      omega
    · rw [show 0 + k * 2 = k * 2 by omega]
      exact hs4.perm (by simp only [ShelfM.setBay]; ac_rfl)
  · rw [if_neg h0] at hk
    rw [hk]
    have hxb : (x == 0) = false := by simp [h0]
    clear hk h0 hS hwf hx
    go_enter Try.func62, Try.ntmps62
    go_wp2_with (go_at_call 55; refine hwant.mono ?_; rintro e w' ⟨rfl, rfl⟩; clear hwant)
    go_ret
    exact ⟨rfl, Same.refl w, HS.out⟩

end Go.Proofs.Ytogmkbhbmmgidaa
