import Derived.Test.YtogmkbhbmmgidaaGreatP13
import Derived.Test.YtogmkbhbmmgidaaGreatP15
import Derived.Test.YtogmkbhbmmgidaaGreatP05
import Derived.Test.YtogmkbhbmmgidaaGreatP04
import Derived.Deep.Cut
import Derived.Shelf.SlMaps.Clone
/- Part 17 of a proof; the last part says what is proved. -/
section
namespace Go.Proofs.YtogmkbhbmmgidaaGreat
open Go.RowKit Go.Sl Go.ChangeMaps
theorem want_zero {S : ShelfM} {d : Int} {inn : Bool} {er : Int} (her : er ≠ 0) : S.want d inn er = 0 ↔ S.state d ≠ 0 ∧ decide (S.state d = 1) = inn := by
  unfold ShelfM.want
  by_cases h0 : S.state d = 0
  · simp [h0]
  · rw [if_neg h0]
    by_cases h1 : decide (S.state d = 1) = inn
    · rw [if_neg (by simp [h1])]; simp [h0, h1]
    · rw [if_pos h1]; simp [h0, h1, her]
set_option maxHeartbeats 400000 in
theorem kill_any (p : Nat) (S : ShelfM) (F : HProp) (d : Int) (w : World) (hS : Sat w (shelfAt SH p S * F)) :
    Calls Tryz.prog 30 #[.pointer (some ⟨p, 0, none⟩), .int .i64 d] w fun e w' => e = .returned (.int .i64 (S.kill d).2) ∧ Hid (Same w w' ∧ Sat w' (shelfAt SH p (S.kill d).1 * F)) := by
  have hwf := shelfAt_wf hS
  have hwant := want_any p S F d true 15 w hS
  have hk : S.kill d = if S.want d true 15 = 0 then (S.setBay d ⟨S.disk d, 3⟩, 0) else (S, S.want d true 15) := rfl
  have HS := Lib.hid hS
  obtain ⟨x, hx⟩ : ∃ x, S.want d true 15 = x := ⟨_, rfl⟩
  rw [hx] at hk hwant
  by_cases h0 : x = 0
  · subst h0
    rw [if_pos rfl] at hk
    rw [hk]
    have h1 := (want_zero (by decide)).1 hx
    have hin := ShelfM.state_in hwf h1.1
    obtain ⟨k, rfl⟩ := Int.eq_ofNat_of_zero_le hin.1
    have hkl := hin.2
    obtain ⟨vb, vi, ps, qs, q, R, ⟨_, hl1, hl2⟩, hq, hs, hR⟩ := shelf_open hS (d := k) (by omega)
    obtain ⟨⟨q6, q7, q8, q9, q10⟩, hp, hfp, hra⟩ := shelf_cells hs
    have hs2 := hs.perm (show _ = ownAt TBay 2 vb S.bays.length (baysL ps S.bays) * (pts p (.cells (shelfC S.cfg vb vi S.off S.fused S.left) TSh (0, 0)) * (ownAt TPtr 1 vi S.images.length (qs.map ptrV) *
        (diskAt TD TS q (S.disk k) * (R * (disksAt TD TS qs S.images * F))))) from by ac_rfl)
    obtain ⟨g, cap, cur, rfl, hg, hc, hf, hgs, _⟩ := ownAt_block hs2 (by omega)
    have hb := ShelfM.bay_of (S := S) hin.1 hin.2
    have hcell := baysL_at ps S.bays k q _ hq (by simpa using hb)
    have b1 := hc _ _ hcell.2
    have b0 := hc _ _ hcell.1
    have hf1 := hf (k * 2 + 1)
    have hfin := ownAt_set hs2 (by omega) rfl (j := k * 2 + 1) (.int .i64 3)
    have hfin2 : Sat (w.setCell ⟨g, k * 2 + 1, none⟩ (.int .i64 3)) (shelfAt SH p (S.setBay k ⟨S.disk k, 3⟩) * F) := by
      refine shelf_put (T := SH) (.slice (some ⟨g, 0, none⟩) S.bays.length cap) vi (d := k) (q' := q) (b := ⟨S.disk k, 3⟩) hl1 hl2 hR (hwf.setBay _ ⟨.inr (.inr rfl), fun h => by simp at h⟩) rfl rfl rfl ?_
      rw [set_self hcell.1]
      exact hfin.perm (by simp only [ShelfM.setBay]; ac_rfl)
    have HF := Lib.hid hfin2
    obtain ⟨n, hnn⟩ : ∃ n, S.bays.length = n := ⟨_, rfl⟩
    rw [hnn] at q6 hkl
    clear hs hs2 hS hwf hk hx h1 hin hfp hra hl1 hl2 hq hc hf hgs hb hcell hfin hfin2 hnn hR
    go_enter Tryz.func30, Tryz.ntmps30
    go_wp2_with (go_at_call 73; refine hwant.mono ?_; rintro e w' ⟨rfl, rfl⟩; clear hwant)
    go_ret
    exact ⟨rfl, (Same.refl w).setCell _ _, HF.out⟩
  · rw [if_neg h0] at hk
    rw [hk]
    have hxb : (x == 0) = false := by simp [h0]
    clear hk h0 hS hwf hx
    go_enter Tryz.func30, Tryz.ntmps30
    go_wp2_with (go_at_call 73; refine hwant.mono ?_; rintro e w' ⟨rfl, rfl⟩; clear hwant)
    go_ret
    exact ⟨rfl, Same.refl w, HS.out⟩
set_option maxRecDepth 100000 in
set_option maxHeartbeats 1000000 in
theorem replace_any (p : Nat) (S : ShelfM) (F : HProp) (d : Int) (w : World) (hS : Sat w (shelfAt SH p S * F)) :
    Calls Tryz.prog 33 #[.pointer (some ⟨p, 0, none⟩), .int .i64 d] w fun e w' => e = .returned (.int .i64 (S.replace d).2) ∧ Hid (Same w w' ∧ Sat w' (shelfAt SH p (S.replace d).1 * F)) := by
  have hwf := shelfAt_wf hS
  have hwant := want_any p S F d false 19 w hS
  have hk : S.replace d = if S.want d false 19 = 0 then (S.setBay d ⟨DiskM.new S.cfg.sectors, 1⟩, 0) else (S, S.want d false 19) := rfl
  have HS := Lib.hid hS
  obtain ⟨x, hx⟩ : ∃ x, S.want d false 19 = x := ⟨_, rfl⟩
  rw [hx] at hk hwant
  by_cases h0 : x = 0
  · subst h0
    rw [if_pos rfl] at hk
    rw [hk]
    have h1 := (want_zero (by decide)).1 hx
    have hin := ShelfM.state_in hwf h1.1
    obtain ⟨k, rfl⟩ := Int.eq_ofNat_of_zero_le hin.1
    have hkl := hin.2
    obtain ⟨vb, vi, ps, qs, q, R, ⟨_, hl1, hl2⟩, hq, hs, hR⟩ := shelf_open hS (d := k) (by omega)
    obtain ⟨⟨q6, q7, q8, q9, q10⟩, hp, hfp, hra⟩ := shelf_cells hs
    have hs2 := hs.perm (show _ = ownAt TBay 2 vb S.bays.length (baysL ps S.bays) * (pts p (.cells (shelfC S.cfg vb vi S.off S.fused S.left) TSh (0, 0)) * (ownAt TPtr 1 vi S.images.length (qs.map ptrV) *
        (diskAt TD TS q (S.disk k) * (R * (disksAt TD TS qs S.images * F))))) from by ac_rfl)
    obtain ⟨g, cap, cur, rfl, hg, hc, hf, hgs, _⟩ := ownAt_block hs2 (by omega)
    have hb := ShelfM.bay_of (S := S) hin.1 hin.2
    have hcell := baysL_at ps S.bays k q _ hq (by simpa using hb)
    have htw : ∀ (w' : World) (Y X : HProp), Sat w' (Y * (ownAt TBay 2 (.slice (some ⟨g, 0, none⟩) S.bays.length cap) S.bays.length (baysL ps S.bays) * X)) → w'.there g (0 + k * 2) 2 := by
      intro w' Y X h j hj
      replace h := h.right
      obtain ⟨g', cap', cur', hv, _, hc', hf', _⟩ := ownAt_block h (by omega)
      simp only [Value.slice.injEq, Option.some.injEq, Addr.mk.injEq, and_true, true_and] at hv
      obtain ⟨rfl, rfl⟩ := hv
      refine ⟨?_, hf' _⟩
      rcases (show j = 0 ∨ j = 1 by omega) with rfl | rfl
      · rw [show 0 + k * 2 + 0 = k * 2 by omega, hc' _ _ hcell.1]; rfl
      · rw [show 0 + k * 2 + 1 = k * 2 + 1 by omega, hc' _ _ hcell.2]; rfl
    have hcfg : ∀ (w' : World) (X : HProp), Sat w' (pts p (.cells (shelfC S.cfg (.slice (some ⟨g, 0, none⟩) S.bays.length cap) vi S.off S.fused S.left) TSh (0, 0)) * X) → w'.cell? ⟨p, 6, none⟩ = some (.slice (some ⟨g, 0, none⟩) S.bays.length cap) ∧ w'.rangeAt p 0 (cfgL S.cfg) :=
      fun w' X h => let r := shelf_cells h; ⟨r.1.1, r.2.2.2⟩
    have HTW := Lib.hid htw
    have HCFG := Lib.hid hcfg
    have HR := Lib.hid hR
    have HWF := Lib.hid hwf
    have HSS := Lib.hid hs
    have HL := Lib.hid (And.intro hl1 hl2)
    obtain ⟨tib, htib⟩ : ∃ ti, Tryz.prog.info? TBay = some ti ∧ ti.size = 2 := by have := infoBay (ptrV 0) (ptrV 0); obtain ⟨ti, h1, h2⟩ := Option.map_eq_some_iff.1 this; exact ⟨ti, h1, h2⟩
    have htb := htib.1
    have htb2 := htib.2
    have ht0 := htw _ _ _ hs
    have c0 := hcfg _ _ hs
    clear hs hs2 hS hwf hk hx h1 hin hfp hra hl1 hl2 hq hc hf hgs hb hcell hR htw hcfg htib
    go_enter Tryz.func33, Tryz.ntmps33
    go_upto_region 3 with (go_at_call 73; refine hwant.mono ?_; rintro e w' ⟨rfl, rfl⟩; clear hwant)
    have hS0 : w.drew.cell? ⟨p, 6, none⟩ = some (.slice (some ⟨g, 0, none⟩) S.bays.length cap) ∧ w.drew.rangeAt p 0 (cfgL S.cfg) ∧ w.drew.there g (0 + k * 2) 2 := ⟨c0.1, c0.2, ht0⟩
    refine reg_begin (fun w' => w'.cell? ⟨p, 6, none⟩ = some (.slice (some ⟨g, 0, none⟩) S.bays.length cap) ∧ w'.rangeAt p 0 (cfgL S.cfg) ∧ w'.there g (0 + k * 2) 2) (by kernel_rfl) ?_
    (apply reg_take 0 rfl rfl (by decide +kernel) rfl); (rintro w' ⟨h1, h2, h3⟩; go_simp; rfl); exact hS0; simp only [List.setIfInBounds_toArray, List.set_cons_succ, List.set_cons_zero]
    (apply reg_take 1 rfl rfl (by decide +kernel) rfl); (rintro w' ⟨h1, h2, h3⟩; go_simp; rfl); exact hS0; simp only [List.setIfInBounds_toArray, List.set_cons_succ, List.set_cons_zero]
    (apply reg_take 2 rfl rfl (by decide +kernel) rfl); (rintro w' ⟨h1, h2, h3⟩; go_simp; rfl); exact hS0; simp only [List.setIfInBounds_toArray, List.set_cons_succ, List.set_cons_zero]
    (apply reg_take 3 rfl rfl (by decide +kernel) rfl); (rintro w' ⟨h1, h2, h3⟩; go_simp; rfl); exact hS0; simp only [List.setIfInBounds_toArray, List.set_cons_succ, List.set_cons_zero]
    (apply reg_take 4 rfl rfl (by decide +kernel) rfl); (rintro w' ⟨h1, h2, h3⟩; go_simp; rfl); exact hS0; simp only [List.setIfInBounds_toArray, List.set_cons_succ, List.set_cons_zero]
    (apply reg_take 5 rfl rfl (by decide +kernel) rfl); (rintro w' ⟨h1, h2, h3⟩; go_simp; rfl); exact hS0; simp only [List.setIfInBounds_toArray, List.set_cons_succ, List.set_cons_zero]
    (apply reg_take 6 rfl rfl (by decide +kernel) rfl); (rintro w' ⟨h1, h2, h3⟩; go_simp; rfl); exact hS0; simp only [List.setIfInBounds_toArray, List.set_cons_succ, List.set_cons_zero]
    (apply reg_take 7 rfl rfl (by decide +kernel) rfl); (rintro w' ⟨h1, h2, h3⟩; go_simp; rfl); exact hS0; simp only [List.setIfInBounds_toArray, List.set_cons_succ, List.set_cons_zero]
    refine reg_take 8 (v := .agg (cfgA S.cfg)) rfl rfl (by decide +kernel) rfl (fun w' h => exec_load rfl rfl (load_cfg h.2.1)) hS0 ?_; simp only [List.setIfInBounds_toArray, List.set_cons_succ, List.set_cons_zero]
    refine reg_call 9 rfl rfl (by decide +kernel) rfl (f := 20) (args := #[.agg (cfgA S.cfg)]) (R := fun v w' => v = .int .i64 S.cfg.sectors ∧ Hid (Below w.heap.size w w')) (by kernel_rfl) ((sectors_any S.cfg w.drew (by have := HWF.out.cfg.log; omega) (by have := HWF.out.cfg.image; omega) (by have := HWF.out.cfg.rows; omega)).mono fun e w' h => ⟨_, h.1, rfl, ⟨h.2.os, h.2.tape, h.2.output, h.2.size, h.2.block⟩⟩) ?_
    rintro _ w1 ⟨rfl, hb1⟩
    have H1 := Lib.hid (And.intro ((Same.refl w).below hb1.out) (HSS.out.below hb1.out))
    have hS1 : w1.cell? ⟨p, 6, none⟩ = some (.slice (some ⟨g, 0, none⟩) S.bays.length cap) ∧ w1.rangeAt p 0 (cfgL S.cfg) ∧ w1.there g (0 + k * 2) 2 := ⟨(HCFG.out _ _ H1.out.2).1, (HCFG.out _ _ H1.out.2).2, HTW.out _ _ _ H1.out.2⟩
    refine ⟨hS1, ?_⟩
    simp only [List.setIfInBounds_toArray, List.set_cons_succ, List.set_cons_zero]
    refine reg_call 10 rfl rfl (by decide +kernel) rfl (f := 21) (args := #[.int .i64 S.cfg.sectors]) (R := fun v w' => ∃ q', v = .pointer (some ⟨q', 0, none⟩) ∧ Hid (Same w w' ∧ Sat w' (pts p (.cells (shelfC S.cfg (.slice (some ⟨g, 0, none⟩) S.bays.length cap) vi S.off S.fused S.left) TSh (0, 0)) * (ownAt TBay 2 (.slice (some ⟨g, 0, none⟩) S.bays.length cap) S.bays.length (baysL ps S.bays) * (ownAt TPtr 1 vi S.images.length (qs.map ptrV) *
        (diskAt TD TS q' (DiskM.new S.cfg.sectors) * (R * (disksAt TD TS qs S.images * F)))))))) (by kernel_rfl)
      ((new_any S.cfg.sectors _ w1 H1.out.2).mono fun e w' h => by
        obtain ⟨q', rfl, h1, h2⟩ := h
        exact ⟨_, rfl, q', rfl, H1.out.1.trans h1, (h2.perm (show _ = diskAt TD TS q (S.disk k) * (pts p (.cells (shelfC S.cfg (.slice (some ⟨g, 0, none⟩) S.bays.length cap) vi S.off S.fused S.left) TSh (0, 0)) * (ownAt TBay 2 (.slice (some ⟨g, 0, none⟩) S.bays.length cap) S.bays.length (baysL ps S.bays) * (ownAt TPtr 1 vi S.images.length (qs.map ptrV) *
        (diskAt TD TS q' (DiskM.new S.cfg.sectors) * (R * (disksAt TD TS qs S.images * F)))))) from by ac_rfl)).right⟩) ?_
    rintro _ w2 ⟨q', rfl, h2⟩
    have hS2 : w2.cell? ⟨p, 6, none⟩ = some (.slice (some ⟨g, 0, none⟩) S.bays.length cap) ∧ w2.rangeAt p 0 (cfgL S.cfg) ∧ w2.there g (0 + k * 2) 2 := ⟨(HCFG.out _ _ h2.out.2).1, (HCFG.out _ _ h2.out.2).2, HTW.out _ _ _ h2.out.2⟩
    refine ⟨hS2, ?_⟩
    simp only [List.setIfInBounds_toArray, List.set_cons_succ, List.set_cons_zero]
    (apply reg_take 11 rfl rfl (by decide +kernel) rfl); (rintro w' ⟨h1, h2, h3⟩; go_simp; rfl); exact hS2; simp only [List.setIfInBounds_toArray, List.set_cons_succ, List.set_cons_zero]
    refine reg_take 12 (v := .pointer (some ⟨g, 0 + k * 2, none⟩)) rfl rfl (by decide +kernel) rfl (fun _ _ => exec_index_slice rfl rfl rfl Tryz.underlying56 htb htb2 (by omega)) hS2 ?_; simp only [List.setIfInBounds_toArray, List.set_cons_succ, List.set_cons_zero]
    refine reg_do_last 13 (w2.setCells g (0 + k * 2) [ptrV q', .int .i64 1]) rfl rfl (by decide +kernel) rfl (exec_store_row (new := #[ptrV q', .int .i64 1]) rfl rfl rfl (infoBay _ _) hS2.2.2 (by simp [ptrV, Value.oneCell'])) ?_
    go_wp2
    go_ret
    refine ⟨rfl, Same.setCells _ h2.out.1, ?_⟩
    have hs3 := h2.out.2.perm (show _ = ownAt TBay 2 (.slice (some ⟨g, 0, none⟩) S.bays.length cap) S.bays.length (baysL ps S.bays) * (pts p (.cells (shelfC S.cfg (.slice (some ⟨g, 0, none⟩) S.bays.length cap) vi S.off S.fused S.left) TSh (0, 0)) * (ownAt TPtr 1 vi S.images.length (qs.map ptrV) *
        (diskAt TD TS q' (DiskM.new S.cfg.sectors) * (R * (disksAt TD TS qs S.images * F))))) from by ac_rfl)
    have hs4 := ownAt_set (ownAt_set hs3 (by omega) rfl (j := k * 2) (ptrV q')) (by omega) rfl (j := k * 2 + 1) (.int .i64 1)
    refine shelf_put (T := SH) (.slice (some ⟨g, 0, none⟩) S.bays.length cap) vi (d := k) (q' := q') (b := ⟨DiskM.new S.cfg.sectors, 1⟩) HL.out.1 HL.out.2 HR.out (HWF.out.setBay _ ⟨.inl rfl, fun _ => ?_⟩) rfl rfl rfl ?_
    · have := HWF.out.cfg.small; have := HWF.out.cfg.log; have := HWF.out.cfg.image; have := HWF.out.cfg.rows
      show (((min (max S.cfg.sectors 0) 65536).toNat : Nat) : Int) = S.cfg.sectors
      unfold CfgM.sectors at *
      omega
    · rw [show 0 + k * 2 = k * 2 by omega]
      exact hs4.perm (by simp only [ShelfM.setBay]; ac_rfl)
  · rw [if_neg h0] at hk
    rw [hk]
    have hxb : (x == 0) = false := by simp [h0]
    clear hk h0 hS hwf hx
    go_enter Tryz.func33, Tryz.ntmps33
    go_wp2_with (go_at_call 73; refine hwant.mono ?_; rintro e w' ⟨rfl, rfl⟩; clear hwant)
    go_ret
    exact ⟨rfl, Same.refl w, HS.out⟩
end Go.Proofs.YtogmkbhbmmgidaaGreat
end
section
namespace Go.Proofs.YtogmkbhbmmgidaaGreat
open Go.RowKit Go.Sl Go.ChangeMaps
set_option maxRecDepth 20000 in
set_option maxHeartbeats 400000 in
theorem mclone_sec (r ck : Nat) (es : Array MapEntry) (w : World) (hb : w.heap[r]? = some (.map es ck)) :
    Calls Tryz.prog 67 #[.map (some r)] w fun e w' => e = .returned (.map (some w.heap.size)) ∧ w' = w.alloc (.map es ck) := by
  have hq := fun w => run_eql_map_nil_sl (P := Tryz.prog) w 95 _ _ (some r) Tryz.underlying95
  go_enter Tryz.func67, Tryz.ntmps67
  go_wp2
  rw [run_callFunc_extern Tryz.func94 (by kernel_rfl) (by kernel_rfl) (by kernel_rfl) (e := Extern.MapsClone.clone) (by kernel_rfl), run_maps_clone_sl w 95 hb]
  simp only [Result.andThen]
  rw [Oper.upon_value]
  go_wp2
  rw [run_typeAssert_map_sl _ 95 20 _ _ _ Tryz.underlying95]
  simp only [Result.andThen]
  rw [Oper.upon_value]
  go_wp2
  go_ret
  exact ⟨rfl, rfl⟩
set_option maxRecDepth 20000 in
set_option maxHeartbeats 400000 in
theorem mclone_int (r ck : Nat) (es : Array MapEntry) (w : World) (hb : w.heap[r]? = some (.map es ck)) :
    Calls Tryz.prog 68 #[.map (some r)] w fun e w' => e = .returned (.map (some w.heap.size)) ∧ w' = w.alloc (.map es ck) := by
  have hq := fun w => run_eql_map_nil_sl (P := Tryz.prog) w 96 _ _ (some r) Tryz.underlying96
  go_enter Tryz.func68, Tryz.ntmps68
  go_wp2
  rw [run_callFunc_extern Tryz.func94 (by kernel_rfl) (by kernel_rfl) (by kernel_rfl) (e := Extern.MapsClone.clone) (by kernel_rfl), run_maps_clone_sl w 96 hb]
  simp only [Result.andThen]
  rw [Oper.upon_value]
  go_wp2
  rw [run_typeAssert_map_sl _ 96 20 _ _ _ Tryz.underlying96]
  simp only [Result.andThen]
  rw [Oper.upon_value]
  go_wp2
  go_ret
  exact ⟨rfl, rfl⟩
theorem sclone_close (n : Nat) (dur : Nat → List UInt8) (dc : Array Value) (xs : List Value) (w w' : World) (v : Value) (hD : DurC n dur dc) (hxs : xs = dc.toList.take (n * 64)) (hl : ∀ i, i < n → (dur i).length = 64)
    (hown : w'.ownsRow w.heap.size TS 64 v n xs) (hk : ∀ k, k < w.heap.size → w'.heap[k]? = w.heap[k]?) (F : HProp) (hF : Sat w F) : Sat w' (durAt TS n dur v * F) := by
  obtain ⟨hlen, hc⟩ := hown
  by_cases hn : n = 0
  · subst hn
    refine durAt_zero.2 ⟨?_, hF.keep hk⟩
    rcases hc with ⟨rfl, _⟩ | ⟨g, cap, cur, rfl, _⟩
    · exact ⟨_, _, rfl⟩
    · exact ⟨_, _, rfl⟩
  · rcases hc with ⟨_, h0⟩ | ⟨g, cap, cur, rfl, hg, hgb, h1, h2, h3, h4⟩
    · exact absurd h0 hn
    · refine (durAt_iff (by omega)).2 ⟨g, cap, cur, ⟨rfl, h1, h3, ?_⟩, hF.growAt hk hg hgb⟩
      intro i hi j u hu
      have hj : j < 64 := by have := (List.getElem?_eq_some_iff.1 hu).1; rw [secL_length, hl i hi] at this; exact this
      have h5 := hD i hi j u hu
      have h6 : (cur.toList.take (n * 64))[i * 64 + j]? = some u := by
        rw [h4, hxs, List.getElem?_take, if_pos (by omega), Array.getElem?_toList]; exact h5
      rw [List.getElem?_take, if_pos (by omega), Array.getElem?_toList] at h6
      exact h6
set_option maxRecDepth 20000 in
set_option maxHeartbeats 400000 in
theorem sclone_any (n cap b : Nat) (dur : Nat → List UInt8) (dc : Array Value) (w : World) (hb : w.heap[b]? = some (.cells dc TS (0, 0))) (hcap : n ≤ cap) (hdc : dc.size = cap * 64) (hD : DurC n dur dc) (hl : ∀ i, i < n → (dur i).length = 64) (hn : 0 < n) (hmax : n ≤ 65536)
    (h1 : ∀ v ∈ dc.toList.take (n * 64), v.oneCell' = true) :
    Calls Tryz.prog 66 #[.slice (some ⟨b, 0, none⟩) n cap] w fun e w' => ∃ v, e = .returned v ∧ Below w.heap.size w w' ∧ ∀ F, Sat w F → Sat w' (durAt TS n dur v * F) := by
  obtain ⟨ti, hti, hz0, hts, hz2⟩ := info_parts info_TS
  have hlen : (dc.toList.take (n * 64)).length = n * 64 := by rw [List.length_take, Array.length_toList, hdc]; omega
  have hblt : b < w.heap.size := (Array.getElem?_eq_some_iff.1 hb).1
  have hcells : ∀ (ob : Obj) j u, (dc.toList.take (n * 64))[j]? = some u → (w.alloc ob).cell? ((⟨b, 0, none⟩ : Addr).add j) = some u := by
    intro ob j u hu
    rw [Addr.add_mid, World.cell?_alloc_lt _ _ _ hblt, cells_at hb, Nat.zero_add]
    rw [List.getElem?_take] at hu
    split at hu
    · rw [Array.getElem?_toList] at hu; exact hu
    · cases hu
  have hown0 : (w.alloc (.cells #[] TS)).ownsRow w.heap.size TS 64 (.slice (some ⟨w.heap.size, 0, none⟩) 0 0) 0 [] :=
    ⟨rfl, .inr ⟨w.heap.size, 0, #[], rfl, Nat.le_refl _, heap_alloc_new w _, Nat.le_refl _, Nat.zero_le _, rfl, rfl⟩⟩
  have hnn : 0 + n ≤ maxLen := by unfold maxLen; omega
  have hnb : (0 + n) * 64 ≤ 140737488355328 := by omega
  have hq : ∀ w, (binOp .eql 94 (.slice (some ⟨b, 0, none⟩) n cap) (.slice none 0 0)).run Tryz.prog w = .ok (.bool false) w := fun w => Lib.run_eql_slice_nil w _ _ _ n cap 0 0 Tryz.underlying94
  have HD := Lib.hid hD
  have HL := Lib.hid hl
  clear hD hl hdc
  go_enter Tryz.func66, Tryz.ntmps66
  go_wp2_with (at_builtin; refine wpList_append_own _ rfl _ _ 94 rfl w.heap.size TS ti (secV zsec) 64 64 Tryz.underlying94 hti hz0 hts hz2 (by kernel_rfl) (by decide) _ _ _ rfl hown0 ⟨b, 0, none⟩ n cap _ rfl hlen (hcells _) h1 hnn hnb (by simp) ?_)
  intro v w1 hown1 hg _
  go_wp2
  go_ret
  have hk : ∀ k, k < w.heap.size → w1.heap[k]? = w.heap[k]? := fun k hk => (hg.block k (by simp; omega) (by simp [Value.ownBlock]; omega)).trans (Below.heap_alloc w _ k hk)
  refine ⟨v, rfl, ⟨hg.os, hg.tape, hg.output, by have := hg.size; simp at this; omega, hk⟩, fun F hF => ?_⟩
  exact sclone_close n dur dc _ w w1 v HD.out rfl HL.out hown1 hk F hF
set_option maxRecDepth 20000 in
set_option maxHeartbeats 400000 in
theorem sclone_zero (bo : Option Addr) (cap : Nat) (dur : Nat → List UInt8) (w : World) :
    Calls Tryz.prog 66 #[.slice bo 0 cap] w fun e w' => ∃ v, e = .returned v ∧ Below w.heap.size w w' ∧ ∀ F, Sat w F → Sat w' (durAt TS 0 dur v * F) := by
  cases bo with
  | none =>
    have hq : ∀ w, (binOp .eql 94 (.slice none 0 cap) (.slice none 0 0)).run Tryz.prog w = .ok (.bool true) w := fun w => Lib.run_eql_slice_nil w _ _ _ 0 cap 0 0 Tryz.underlying94
    go_enter Tryz.func66, Tryz.ntmps66
    go_wp2
    go_ret
    exact ⟨_, rfl, Below.refl _ _, fun F hF => durAt_zero.2 ⟨⟨_, _, rfl⟩, hF⟩⟩
  | some ad =>
    obtain ⟨ti, hti, hz0, hts, hz2⟩ := info_parts info_TS
    have hown0 : (w.alloc (.cells #[] TS)).ownsRow w.heap.size TS 64 (.slice (some ⟨w.heap.size, 0, none⟩) 0 0) 0 [] :=
      ⟨rfl, .inr ⟨w.heap.size, 0, #[], rfl, Nat.le_refl _, heap_alloc_new w _, Nat.le_refl _, Nat.zero_le _, rfl, rfl⟩⟩
    have hnn : 0 + 0 ≤ maxLen := by unfold maxLen; omega
    have hnb : (0 + 0) * 64 ≤ 140737488355328 := by omega
    have hq : ∀ w, (binOp .eql 94 (.slice (some ad) 0 cap) (.slice none 0 0)).run Tryz.prog w = .ok (.bool false) w := fun w => Lib.run_eql_slice_nil w _ _ _ 0 cap 0 0 Tryz.underlying94
    go_enter Tryz.func66, Tryz.ntmps66
    go_wp2_with (at_builtin; refine wpList_append_own _ rfl _ _ 94 rfl w.heap.size TS ti (secV zsec) 64 64 Tryz.underlying94 hti hz0 hts hz2 (by kernel_rfl) (by decide) _ _ _ rfl hown0 ad 0 cap [] rfl rfl (by simp) (by simp) hnn hnb (by simp) ?_)
    intro v w1 hown1 hg _
    go_wp2
    go_ret
    have hk : ∀ k, k < w.heap.size → w1.heap[k]? = w.heap[k]? := fun k hk => (hg.block k (by simp; omega) (by simp [Value.ownBlock]; omega)).trans (Below.heap_alloc w _ k hk)
    refine ⟨v, rfl, ⟨hg.os, hg.tape, hg.output, by have := hg.size; simp at this; omega, hk⟩, fun F hF => ?_⟩
    exact sclone_close 0 dur #[] _ w w1 v (by intro i hi; omega) rfl (by intro i hi; omega) hown1 hk F hF
set_option linter.unusedSimpArgs false in
set_option maxHeartbeats 1000000 in
theorem clone_any (p : Nat) (D : DiskM) (F : HProp) (w : World) (hS : Sat w (diskAt TD TS p D * F)) :
    Calls Tryz.prog 24 #[.pointer (some ⟨p, 0, none⟩)] w fun e w' => ∃ q, e = .returned (.pointer (some ⟨q, 0, none⟩)) ∧ Same w w' ∧ Sat w' (diskAt TD TS q D * (diskAt TD TS p D * F)) := by
  obtain ⟨v, cb, ab, es, ck, l, es2, ck2, l2, ⟨hwf, hM, hK, hM2, hK2⟩, hs⟩ := diskAt_iff.1 hS
  obtain ⟨bo, cap, rfl⟩ := durAt_slice hs.right
  obtain ⟨q0, q1, q2⟩ := disk_cells hs
  have hsb := hs.right.right
  have hcb : w.heap[cb]? = some (.map es ck) := hsb.block
  have hab : w.heap[ab]? = some (.map es2 ck2) := hsb.right.block
  have hplt := hs.lt
  have hcblt := (Array.getElem?_eq_some_iff.1 hcb).1
  have hablt := (Array.getElem?_eq_some_iff.1 hab).1
  have c50 : Calls Tryz.prog 66 #[.slice bo D.n cap] w.drew fun e w' => ∃ v, e = .returned v ∧ Below w.drew.heap.size w.drew w' ∧ ∀ F, Sat w.drew F → Sat w' (durAt TS D.n D.dur v * F) := by
    by_cases hn : D.n = 0
    · rw [hn]; exact sclone_zero bo cap D.dur w.drew
    · have hsd := hs.perm (show _ = durAt TS D.n D.dur (.slice bo D.n cap) * (pts p (.cells #[.slice bo D.n cap, .map (some cb), .map (some ab)] TD (0, 0)) * (pts cb (.map es ck) * (pts ab (.map es2 ck2) * F))) from by ac_rfl)
      obtain ⟨b, cap, dc, ⟨hv, hcap, hdc, hD⟩, hsb⟩ := (durAt_iff (by omega)).1 hsd
      rw [hv]
      have hb := hsb.block
      have h1 : ∀ u ∈ dc.toList.take (D.n * 64), u.oneCell' = true := by
        intro u hu
        obtain ⟨j, hj, rfl⟩ := List.getElem_of_mem hu
        rw [List.length_take] at hj
        have h3 := hD (j / 64) (by omega) (j % 64) _ (secL_at (hwf.dur (j / 64) (by omega)) (Nat.mod_lt _ (by omega)))
        rw [show j / 64 * 64 + j % 64 = j by omega] at h3
        rw [List.getElem_take]
        have h4 : dc[j]? = some dc.toList[j] := by rw [← Array.getElem?_toList, List.getElem?_eq_getElem]
        rw [h4] at h3
        rw [Option.some.inj h3]; rfl
      exact sclone_any D.n cap b D.dur dc w.drew hb hcap hdc hD hwf.dur (by omega) hwf.small h1
  have HS := Lib.hid hS
  have HI := Lib.hid (show D.WF ∧ MapL es ck l ∧ KvSec l D.cache ∧ MapL es2 ck2 l2 ∧ KvInt l2 D.armed from ⟨hwf, hM, hK, hM2, hK2⟩)
  clear hM hK hM2 hK2 hwf hsb hs hS
  go_enter Tryz.func24, Tryz.ntmps24
  go_upto_region 1 with (fail)
  have hS0 : w.drew.cell? ⟨p, 0, none⟩ = some (.slice bo D.n cap) ∧ w.drew.cell? ⟨p, 1, none⟩ = some (.map (some cb)) ∧ w.drew.cell? ⟨p, 2, none⟩ = some (.map (some ab)) := ⟨q0, q1, q2⟩
  refine reg_begin (fun w' => w'.cell? ⟨p, 0, none⟩ = some (.slice bo D.n cap) ∧ w'.cell? ⟨p, 1, none⟩ = some (.map (some cb)) ∧ w'.cell? ⟨p, 2, none⟩ = some (.map (some ab))) (by kernel_rfl) ?_
  (apply reg_take 0 rfl rfl (by decide +kernel) rfl); (rintro w' ⟨h1, h2, h3⟩; go_simp; rfl); exact hS0; simp only [List.setIfInBounds_toArray, List.set_cons_succ, List.set_cons_zero]
  (apply reg_take 1 rfl rfl (by decide +kernel) rfl); (rintro w' ⟨h1, h2, h3⟩; go_simp; rfl); exact hS0; simp only [List.setIfInBounds_toArray, List.set_cons_succ, List.set_cons_zero]
  (apply reg_take 2 rfl rfl (by decide +kernel) rfl); (rintro w' ⟨h1, h2, h3⟩; go_simp; rfl); exact hS0; simp only [List.setIfInBounds_toArray, List.set_cons_succ, List.set_cons_zero]
  (apply reg_take 3 rfl rfl (by decide +kernel) rfl); (rintro w' ⟨h1, h2, h3⟩; go_simp; rfl); exact hS0; simp only [List.setIfInBounds_toArray, List.set_cons_succ, List.set_cons_zero]
  (apply reg_take 5 rfl rfl (by decide +kernel) rfl); (rintro w' ⟨h1, h2, h3⟩; go_simp; rfl); exact hS0; simp only [List.setIfInBounds_toArray, List.set_cons_succ, List.set_cons_zero]
  (apply reg_take 6 rfl rfl (by decide +kernel) rfl); (rintro w' ⟨h1, h2, h3⟩; go_simp; rfl); exact hS0; simp only [List.setIfInBounds_toArray, List.set_cons_succ, List.set_cons_zero]
  (apply reg_take 7 rfl rfl (by decide +kernel) rfl); (rintro w' ⟨h1, h2, h3⟩; go_simp; rfl); exact hS0; simp only [List.setIfInBounds_toArray, List.set_cons_succ, List.set_cons_zero]
  (apply reg_take 8 rfl rfl (by decide +kernel) rfl); (rintro w' ⟨h1, h2, h3⟩; go_simp; rfl); exact hS0; simp only [List.setIfInBounds_toArray, List.set_cons_succ, List.set_cons_zero]
  (apply reg_take 10 rfl rfl (by decide +kernel) rfl); (rintro w' ⟨h1, h2, h3⟩; go_simp; rfl); exact hS0; simp only [List.setIfInBounds_toArray, List.set_cons_succ, List.set_cons_zero]
  (apply reg_take 11 rfl rfl (by decide +kernel) rfl); (rintro w' ⟨h1, h2, h3⟩; go_simp; rfl); exact hS0; simp only [List.setIfInBounds_toArray, List.set_cons_succ, List.set_cons_zero]
  (apply reg_take 12 rfl rfl (by decide +kernel) rfl); (rintro w' ⟨h1, h2, h3⟩; go_simp; rfl); exact hS0; simp only [List.setIfInBounds_toArray, List.set_cons_succ, List.set_cons_zero]
  (apply reg_take 13 rfl rfl (by decide +kernel) rfl); (rintro w' ⟨h1, h2, h3⟩; go_simp; rfl); exact hS0; simp only [List.setIfInBounds_toArray, List.set_cons_succ, List.set_cons_zero]
  refine reg_call 4 rfl rfl (by decide +kernel) rfl (f := 66) (args := #[.slice bo D.n cap]) (by kernel_rfl) c50 ?_
  rintro dv W1 ⟨hb1, hd1⟩
  clear c50
  have hS1 : W1.cell? ⟨p, 0, none⟩ = some (.slice bo D.n cap) ∧ W1.cell? ⟨p, 1, none⟩ = some (.map (some cb)) ∧ W1.cell? ⟨p, 2, none⟩ = some (.map (some ab)) :=
    ⟨(hb1.cell (p := ⟨p, 0, none⟩) hplt).trans q0, (hb1.cell (p := ⟨p, 1, none⟩) hplt).trans q1, (hb1.cell (p := ⟨p, 2, none⟩) hplt).trans q2⟩
  refine ⟨hS1, ?_⟩
  simp only [List.setIfInBounds_toArray, List.set_cons_succ, List.set_cons_zero]
  have hcb1 : W1.heap[cb]? = some (.map es ck) := (hb1.block cb hcblt).trans hcb
  have hab1 : W1.heap[ab]? = some (.map es2 ck2) := (hb1.block ab hablt).trans hab
  have hsz1 := hb1.size
  refine reg_call 9 rfl rfl (by decide +kernel) rfl (f := 67) (args := #[.map (some cb)]) (R := fun v w' => v = .map (some W1.heap.size) ∧ w' = W1.alloc (.map es ck)) (by kernel_rfl) ((mclone_sec cb ck es W1 hcb1).mono fun e w' h => ⟨_, h.1, rfl, h.2⟩) ?_
  rintro _ _ ⟨rfl, rfl⟩
  have hp1 : p < W1.heap.size := Nat.lt_of_lt_of_le hplt hsz1
  have hS2 : (W1.alloc (.map es ck)).cell? ⟨p, 0, none⟩ = some (.slice bo D.n cap) ∧ (W1.alloc (.map es ck)).cell? ⟨p, 1, none⟩ = some (.map (some cb)) ∧ (W1.alloc (.map es ck)).cell? ⟨p, 2, none⟩ = some (.map (some ab)) :=
    ⟨(World.cell?_alloc_lt _ _ _ hp1).trans hS1.1, (World.cell?_alloc_lt _ _ _ hp1).trans hS1.2.1, (World.cell?_alloc_lt _ _ _ hp1).trans hS1.2.2⟩
  refine ⟨hS2, ?_⟩
  simp only [List.setIfInBounds_toArray, List.set_cons_succ, List.set_cons_zero]
  have hab2 : (W1.alloc (.map es ck)).heap[ab]? = some (.map es2 ck2) := (Below.heap_alloc W1 _ ab (Nat.lt_of_lt_of_le hablt hsz1)).trans hab1
  refine reg_call 14 rfl rfl (by decide +kernel) rfl (f := 68) (args := #[.map (some ab)]) (R := fun v w' => v = .map (some (W1.heap.size + 1)) ∧ w' = (W1.alloc (.map es ck)).alloc (.map es2 ck2)) (by kernel_rfl) ((mclone_int ab ck2 es2 _ hab2).mono fun e w' h => ⟨_, h.1, by simp, h.2⟩) ?_
  rintro _ _ ⟨rfl, rfl⟩
  have hp2 : p < (W1.alloc (.map es ck)).heap.size := by simp; omega
  have hS3 : ((W1.alloc (.map es ck)).alloc (.map es2 ck2)).cell? ⟨p, 0, none⟩ = some (.slice bo D.n cap) ∧ ((W1.alloc (.map es ck)).alloc (.map es2 ck2)).cell? ⟨p, 1, none⟩ = some (.map (some cb)) ∧ ((W1.alloc (.map es ck)).alloc (.map es2 ck2)).cell? ⟨p, 2, none⟩ = some (.map (some ab)) :=
    ⟨(World.cell?_alloc_lt _ _ _ hp2).trans hS2.1, (World.cell?_alloc_lt _ _ _ hp2).trans hS2.2.1, (World.cell?_alloc_lt _ _ _ hp2).trans hS2.2.2⟩
  refine ⟨hS3, ?_⟩
  simp only [List.setIfInBounds_toArray, List.set_cons_succ, List.set_cons_zero]
  obtain ⟨ao, cc, hdv⟩ : ∃ ao cc, dv = .slice ao D.n cc := by
    have := hd1 _ HS.out
    exact durAt_slice this
  subst hdv
  (apply reg_take 15 rfl rfl (by decide +kernel) rfl); (rintro w' ⟨h1, h2, h3⟩; go_simp; rfl); exact hS3; simp only [List.setIfInBounds_toArray, List.set_cons_succ, List.set_cons_zero]
  have hs4 := (((hd1 _ HS.out).alloc (.map es ck)).alloc (.map es2 ck2)).alloc (.cells #[.slice ao D.n cc, .map (some W1.heap.size), .map (some (W1.heap.size + 1))] TD)
  have hp3 : p < ((W1.alloc (.map es ck)).alloc (.map es2 ck2)).heap.size := by simp; omega
  have hS4 : (((W1.alloc (.map es ck)).alloc (.map es2 ck2)).alloc (.cells #[.slice ao D.n cc, .map (some W1.heap.size), .map (some (W1.heap.size + 1))] TD)).cell? ⟨p, 0, none⟩ = some (.slice bo D.n cap) ∧ (((W1.alloc (.map es ck)).alloc (.map es2 ck2)).alloc (.cells #[.slice ao D.n cc, .map (some W1.heap.size), .map (some (W1.heap.size + 1))] TD)).cell? ⟨p, 1, none⟩ = some (.map (some cb)) ∧ (((W1.alloc (.map es ck)).alloc (.map es2 ck2)).alloc (.cells #[.slice ao D.n cc, .map (some W1.heap.size), .map (some (W1.heap.size + 1))] TD)).cell? ⟨p, 2, none⟩ = some (.map (some ab)) :=
    ⟨(World.cell?_alloc_lt _ _ _ hp3).trans hS3.1, (World.cell?_alloc_lt _ _ _ hp3).trans hS3.2.1, (World.cell?_alloc_lt _ _ _ hp3).trans hS3.2.2⟩
  refine reg_run 16 (.pointer (some ⟨W1.heap.size + 2, 0, none⟩)) (((W1.alloc (.map es ck)).alloc (.map es2 ck2)).alloc (.cells #[.slice ao D.n cc, .map (some W1.heap.size), .map (some (W1.heap.size + 1))] TD)) rfl rfl (by decide +kernel) rfl (by go_simp) (hS4) ?_; simp only [List.setIfInBounds_toArray, List.set_cons_succ, List.set_cons_zero]
  (apply reg_take 17 rfl rfl (by decide +kernel) rfl); (rintro w' ⟨h1, h2, h3⟩; go_simp; rfl); exact hS4; simp only [List.setIfInBounds_toArray, List.set_cons_succ, List.set_cons_zero]
  refine reg_done (by decide +kernel) ?_
  have HF := Lib.hid hs4
  have HB := Lib.hid hb1
  clear hs4 hS0 hS1 hS2 hS3 hS4 hd1 hb1 q0 q1 q2
  go_wp2
  go_ret
  refine ⟨W1.heap.size + 2, rfl, (((((Same.refl w).drew).below HB.out).alloc _).alloc _).alloc _, ?_⟩
  have hf := HF.out
  simp only [World.size_alloc] at hf
  obtain ⟨hwf, hM, hK, hM2, hK2⟩ := HI.out
  exact diskAt_iff.2 ⟨.slice ao D.n cc, W1.heap.size, W1.heap.size + 1, es, ck, l, es2, ck2, l2, ⟨hwf, hM, hK, hM2, hK2⟩, hf.perm (by ac_rfl)⟩
end Go.Proofs.YtogmkbhbmmgidaaGreat
end
