import Derived.Test.YteikbikopgabjaaGreatDoorH15
import Derived.Test.YteikbikopgabjaaGreatDoorH31
import Derived.Test.YteikbikopgabjaaGreatDoorH14
import Derived.Laws.MakeOwn
/- Part 33 of a proof; the last part says what is proved. -/
namespace Go.Proofs.YteikbikopgabjaaGreatDoor
open Go.RowKit Go.Vol Go.Sl
set_option maxRecDepth 20000 in
set_option maxHeartbeats 4000000 in
theorem volsO_any (p : Nat) (S : SpaceM) (w : World) (hS : SpaceAt TNode TSp w p S) (hwf : S.WF) :
  Calls Tryz.prog 61 #[.pointer (some ⟨p, 0, none⟩)] w fun e w' => ∃ v, e = .returned v ∧ Hid (Same w w' ∧ Sat w' (ownAt TVi 3 v S.vols.length (S.vols.flatMap viE) * old w)) := by
 obtain ⟨lv, ls, hlv, hls, ⟨vv, vs, hp, hrv, hrs⟩, hev, hes⟩ := hS
 obtain ⟨ao, cap, rfl, hvx⟩ := id hrv
 obtain ⟨so, scap, rfl, hsx⟩ := id hrs
 obtain ⟨c0, c1, hpl⟩ := sp_cells hp
 have HP := Lib.hid (And.intro hrv (And.intro hrs (And.intro hev (And.intro hes (And.intro hlv hls)))))
 have hll : S.vols.length = lv.length := by rw [← hlv, List.length_map]
 have hlen : lv.length ≤ 256 := by have := hwf.vlen; rw [hll] at this; omega
 have HLL := Lib.hid (And.intro hll hlen)
 clear hp hrv hrs hev hes hlv hls hwf hvx hsx hll
 go_enter Tryz.func61, Tryz.ntmps61
 go_wp2
 clear c0 c1
 go_loopw [2, 10] (fun v i wr => ListSt TVi 3 viE w S.vols v i wr) (fun _ i _ => lv.length - (intOf i).toNat)
 case atStart => exact ⟨⟨0, Nat.zero_le _, rfl, Same.refl w, ownAt_nil.2 (Sat.old w)⟩⟩
 case round =>
  obtain ⟨k, hk, rfl, hsm, hs⟩ := hrel.st
  clear hrel
  obtain ⟨ra, rc, rfl⟩ := ownAt_slice hs
  have hbw := hsm.below_of hs
  have H1 := Lib.hid (And.intro hsm hs)
  clear hsm hs
  by_cases hlt : k < lv.length
  ·have hltd : decide ((k : Int) < (lv.length : Int)) = true := decide_eq_true (by omega)
   obtain ⟨x, hx⟩ : ∃ x, lv[k]? = some x := ⟨_, List.getElem?_eq_getElem hlt⟩
   have hxl : S.vols[k]? = some x.1 := by rw [← HP.out.2.2.2.2.1, List.getElem?_map, hx]; rfl
   have hN := HP.out.2.2.1 x (List.mem_of_getElem? hx)
   obtain ⟨⟨id, ten, src, m⟩, r⟩ := x
   obtain ⟨q, hq⟩ := NodeAt.ptr hN
   obtain rfl : r = .pointer q := hq
   obtain ⟨b, rfl, hb, e0, e1, e2, e3⟩ := vol_cells HP.out.1 hx
   have e0 := (hbw.cell (p := ⟨b, k * 4, none⟩) hb).trans e0
   have e1 := (hbw.cell (p := ⟨b, k * 4 + 1, none⟩) hb).trans e1
   have e2 := (hbw.cell (p := ⟨b, k * 4 + 2, none⟩) hb).trans e2
   have e3 := (hbw.cell (p := ⟨b, k * 4 + 3, none⟩) hb).trans e3
   simp only at e0 e1 e2 e3
   have HX := Lib.hid hxl
   have hk256 : k ≤ 256 := by omega
   clear hN hxl hx hbw
   go_upto_region 4 with (fail)
   have h0 := H1.out.2.alloc (.cells #[.int .i64 id, .int .i64 ten, .pointer q, .int .i64 (cnt m : Int)] TVol)
   have hsm2 := H1.out.1.alloc (.cells #[.int .i64 id, .int .i64 ten, .pointer q, .int .i64 (cnt m : Int)] TVol)
   generalize wr.alloc (.cells #[.int .i64 id, .int .i64 ten, .pointer q, .int .i64 (cnt m : Int)] TVol) = W2 at h0 hsm2 ⊢
   generalize wr.heap.size = B5 at h0 ⊢
   have H2 := Lib.hid (And.intro hsm2 h0)
   clear h0 hsm2 H1 e0 e1 e2 e3
   have hS0 : W2.drew.cell? ⟨B5, 0, none⟩ = some (.int .i64 id) ∧ W2.drew.cell? ⟨B5, 1, none⟩ = some (.int .i64 ten) ∧ W2.drew.cell? ⟨B5, 2, none⟩ = some (.pointer q) ∧ W2.drew.cell? ⟨B5, 3, none⟩ = some (.int .i64 (cnt m : Int)) := ⟨cells_at H2.out.2.drew.block 0, cells_at H2.out.2.drew.block 1, cells_at H2.out.2.drew.block 2, cells_at H2.out.2.drew.block 3⟩
   refine reg_begin (fun w' => w'.cell? ⟨B5, 0, none⟩ = some (.int .i64 id) ∧ w'.cell? ⟨B5, 1, none⟩ = some (.int .i64 ten) ∧ w'.cell? ⟨B5, 2, none⟩ = some (.pointer q) ∧ w'.cell? ⟨B5, 3, none⟩ = some (.int .i64 (cnt m : Int))) (by kernel_rfl) ?_
   (apply reg_take 0 rfl rfl (by decide +kernel) rfl); (rintro w' ⟨h1, h2, h3, h4⟩; go_simp; rfl); exact hS0; simp only [zq1, zq2, zq3]
   (apply reg_take 1 rfl rfl (by decide +kernel) rfl); (rintro w' ⟨h1, h2, h3, h4⟩; go_simp; rfl); exact hS0; simp only [zq1, zq2, zq3]
   (apply reg_take 2 rfl rfl (by decide +kernel) rfl); (rintro w' ⟨h1, h2, h3, h4⟩; go_simp; rfl); exact hS0; simp only [zq1, zq2, zq3]
   (apply reg_take 3 rfl rfl (by decide +kernel) rfl); (rintro w' ⟨h1, h2, h3, h4⟩; go_simp; rfl); exact hS0; simp only [zq1, zq2, zq3]
   (apply reg_take 4 rfl rfl (by decide +kernel) rfl); (rintro w' ⟨h1, h2, h3, h4⟩; go_simp; rfl); exact hS0; simp only [zq1, zq2, zq3]
   (apply reg_take 5 rfl rfl (by decide +kernel) rfl); (rintro w' ⟨h1, h2, h3, h4⟩; go_simp; rfl); exact hS0; simp only [zq1, zq2, zq3]
   (apply reg_take 6 rfl rfl (by decide +kernel) rfl); (rintro w' ⟨h1, h2, h3, h4⟩; go_simp; rfl); exact hS0; simp only [zq1, zq2, zq3]
   (apply reg_take 7 rfl rfl (by decide +kernel) rfl); (rintro w' ⟨h1, h2, h3, h4⟩; go_simp; rfl); exact hS0; simp only [zq1, zq2, zq3]
   (apply reg_take 8 rfl rfl (by decide +kernel) rfl); (rintro w' ⟨h1, h2, h3, h4⟩; go_simp; rfl); exact hS0; simp only [zq1, zq2, zq3]
   (apply reg_take 9 rfl rfl (by decide +kernel) rfl); (rintro w' ⟨h1, h2, h3, h4⟩; go_simp; rfl); exact hS0; simp only [zq1, zq2, zq3]
   refine reg_call 10 rfl rfl (by decide +kernel) rfl (f := 85) (args := #[.agg #[.pointer q, .int .i64 (cnt m : Int)]]) (R := fun v w' => v = .int .i64 (cnt m : Int) ∧ w' = W2.drew.alloc (.cells #[.pointer q, .int .i64 (cnt m : Int)] TTree)) (by kernel_rfl)
    ((treeLen_any q (cnt m : Int) W2.drew).mono fun e w' h => ⟨_, h.1, rfl, h.2⟩) ?_
   rintro _ _ ⟨rfl, rfl⟩
   have h3 := (H2.out.2.drew.alloc (.cells #[.pointer q, .int .i64 (cnt m : Int)] TTree)).right
   have hsm3 := H2.out.1.drew.alloc (.cells #[.pointer q, .int .i64 (cnt m : Int)] TTree)
   generalize W2.drew.alloc (.cells #[.pointer q, .int .i64 (cnt m : Int)] TTree) = w3 at h3 hsm3 ⊢
   have hS3 : w3.cell? ⟨B5, 0, none⟩ = some (.int .i64 id) ∧ w3.cell? ⟨B5, 1, none⟩ = some (.int .i64 ten) ∧ w3.cell? ⟨B5, 2, none⟩ = some (.pointer q) ∧ w3.cell? ⟨B5, 3, none⟩ = some (.int .i64 (cnt m : Int)) := ⟨cells_at h3.block 0, cells_at h3.block 1, cells_at h3.block 2, cells_at h3.block 3⟩
   refine ⟨hS3, ?_⟩
   simp only [zq1, zq2, zq3]
   (apply reg_take 11 rfl rfl (by decide +kernel) rfl); (rintro w' ⟨h1, h2, h3, h4⟩; go_simp; rfl); exact hS3; simp only [zq1, zq2, zq3]
   have hA4 := h3.alloc (.cells #[.int .i64 id, .int .i64 ten, .int .i64 (cnt m : Int)] TVi)
   have hS4 : (w3.alloc (.cells #[.int .i64 id, .int .i64 ten, .int .i64 (cnt m : Int)] TVi)).cell? ⟨B5, 0, none⟩ = some (.int .i64 id) ∧ (w3.alloc (.cells #[.int .i64 id, .int .i64 ten, .int .i64 (cnt m : Int)] TVi)).cell? ⟨B5, 1, none⟩ = some (.int .i64 ten) ∧ (w3.alloc (.cells #[.int .i64 id, .int .i64 ten, .int .i64 (cnt m : Int)] TVi)).cell? ⟨B5, 2, none⟩ = some (.pointer q) ∧ (w3.alloc (.cells #[.int .i64 id, .int .i64 ten, .int .i64 (cnt m : Int)] TVi)).cell? ⟨B5, 3, none⟩ = some (.int .i64 (cnt m : Int)) := ⟨cells_at hA4.right.block 0, cells_at hA4.right.block 1, cells_at hA4.right.block 2, cells_at hA4.right.block 3⟩
   refine reg_run 12 (.slice (some ⟨w3.heap.size, 0, none⟩) 1 1) (w3.alloc (.cells #[.int .i64 id, .int .i64 ten, .int .i64 (cnt m : Int)] TVi)) rfl rfl (by decide +kernel) rfl (by go_simp) (hS4) ?_; simp only [zq1, zq2, zq3]
   have hA5 := hA4.perm (show _ = ownAt TVi 3 (.slice ra k rc) k ((S.vols.take k).flatMap viE) * (pts w3.heap.size (.cells #[.int .i64 id, .int .i64 ten, .int .i64 (cnt m : Int)] TVi (0, 0)) * (pts B5 (.cells #[.int .i64 id, .int .i64 ten, .pointer q, .int .i64 (cnt m : Int)] TVol (0, 0)) * old w)) from by ac_rfl)
   obtain ⟨ti, hti, hz0, hts, hz2⟩ := info_parts info_vi
   obtain ⟨v', w5, hr, hsm5, hs5⟩ := run_append_ownAt (P := Tryz.prog) 139 139 TVi ti _ Tryz.underlying139 hti hz0 (by rw [hts]; rfl) (.slice ra k rc) k ((S.vols.take k).flatMap viE) (by rw [hts]; exact hA5) ⟨w3.heap.size, 0, none⟩ 1 1 [.int .i64 id, .int .i64 ten, .int .i64 (cnt m : Int)] (by rw [hts]; rfl)
    (by intro j u hu; rw [Addr.add_mid, cells_at hA5.right.block, Nat.zero_add]; simpa using hu) (by simp [Value.oneCell']) (by unfold maxLen; omega) (by rw [hz2]; omega)
   rw [hts] at hs5
   have hS6 : w5.cell? ⟨B5, 0, none⟩ = some (.int .i64 id) ∧ w5.cell? ⟨B5, 1, none⟩ = some (.int .i64 ten) ∧ w5.cell? ⟨B5, 2, none⟩ = some (.pointer q) ∧ w5.cell? ⟨B5, 3, none⟩ = some (.int .i64 (cnt m : Int)) := ⟨cells_at hs5.right.right.block 0, cells_at hs5.right.right.block 1, cells_at hs5.right.right.block 2, cells_at hs5.right.right.block 3⟩
   refine reg_run 13 (v') (w5) rfl rfl (by decide +kernel) rfl (exec_app27 rfl rfl rfl hr) (hS6) ?_; simp only [zq1, zq2, zq3]
   obtain ⟨ao', cp', rfl⟩ := ownAt_slice hs5
   (apply reg_take 14 rfl rfl (by decide +kernel) rfl); (rintro w' ⟨h1, h2, h3, h4⟩; go_simp; rfl); exact hS6; simp only [zq1, zq2, zq3]
   refine reg_done (by decide +kernel) ?_
   have H6 := Lib.hid (And.intro ((hsm3.alloc (.cells #[.int .i64 id, .int .i64 ten, .int .i64 (cnt m : Int)] TVi)).trans hsm5) hs5)
   clear hS0 hS3 hS4 hS6 hA4 hA5 h3 hsm3 hsm5 hs5 hr hti hz0 hts hz2
   go_wp2
   refine ⟨⟨⟨k + 1, by rw [HLL.out.1]; omega, by rw [Int.natCast_add]; rfl, H6.out.1, ?_⟩⟩, by simp only [intOf]; omega⟩
   have htk : S.vols.take (k + 1) = S.vols.take k ++ [⟨id, ten, src, m⟩] := by rw [List.take_add_one, HX.out]; rfl
   rw [htk, List.flatMap_append]
   exact Sat.right (P := pts w3.heap.size (.cells #[.int .i64 id, .int .i64 ten, .int .i64 (cnt m : Int)] TVi (0, 0)) * pts B5 (.cells #[.int .i64 id, .int .i64 ten, .pointer q, .int .i64 (cnt m : Int)] TVol (0, 0))) (H6.out.2.perm (by show ownAt TVi 3 _ _ (_ ++ [.int .i64 id, .int .i64 ten, .int .i64 (cnt m : Int)]) * _ = _ * (ownAt TVi 3 _ _ (_ ++ [.int .i64 id, .int .i64 ten, .int .i64 (cnt m : Int)]) * _); ac_rfl))
  ·have hke : k = S.vols.length := by rw [HLL.out.1] at hk ⊢; omega
   have hltd : decide ((k : Int) < (lv.length : Int)) = false := decide_eq_false (by omega)
   clear hbw
   go_wp2
   go_ret
   subst hke
   rw [List.take_length] at H1
   exact ⟨_, rfl, H1.out⟩
set_option maxRecDepth 20000 in
set_option maxHeartbeats 4000000 in
theorem snapsO_any (p : Nat) (S : SpaceM) (w : World) (hS : SpaceAt TNode TSp w p S) (hwf : S.WF) :
  Calls Tryz.prog 63 #[.pointer (some ⟨p, 0, none⟩)] w fun e w' => ∃ v, e = .returned v ∧ Hid (Same w w' ∧ Sat w' (ownAt TSi 4 v S.snaps.length (S.snaps.flatMap siE) * old w)) := by
 obtain ⟨lv, ls, hlv, hls, ⟨vv, vs, hp, hrv, hrs⟩, hev, hes⟩ := hS
 obtain ⟨ao, cap, rfl, hvx⟩ := id hrv
 obtain ⟨so, scap, rfl, hsx⟩ := id hrs
 obtain ⟨c0, c1, hpl⟩ := sp_cells hp
 have HP := Lib.hid (And.intro hrv (And.intro hrs (And.intro hev (And.intro hes (And.intro hlv hls)))))
 have hll : S.snaps.length = ls.length := by rw [← hls, List.length_map]
 have hlen : ls.length ≤ 256 := by have := hwf.slen; rw [hll] at this; omega
 have HLL := Lib.hid (And.intro hll hlen)
 clear hp hrv hrs hev hes hlv hls hwf hvx hsx hll
 go_enter Tryz.func63, Tryz.ntmps63
 go_wp2
 clear c0 c1
 go_loopw [2, 10] (fun v i wr => ListSt TSi 4 siE w S.snaps v i wr) (fun _ i _ => ls.length - (intOf i).toNat)
 case atStart => exact ⟨⟨0, Nat.zero_le _, rfl, Same.refl w, ownAt_nil.2 (Sat.old w)⟩⟩
 case round =>
  obtain ⟨k, hk, rfl, hsm, hs⟩ := hrel.st
  clear hrel
  obtain ⟨ra, rc, rfl⟩ := ownAt_slice hs
  have hbw := hsm.below_of hs
  have H1 := Lib.hid (And.intro hsm hs)
  clear hsm hs
  by_cases hlt : k < ls.length
  ·have hltd : decide ((k : Int) < (ls.length : Int)) = true := decide_eq_true (by omega)
   obtain ⟨x, hx⟩ : ∃ x, ls[k]? = some x := ⟨_, List.getElem?_eq_getElem hlt⟩
   have hxl : S.snaps[k]? = some x.1 := by rw [← HP.out.2.2.2.2.2, List.getElem?_map, hx]; rfl
   have hN := HP.out.2.2.2.1 x (List.mem_of_getElem? hx)
   obtain ⟨⟨id, ten, src, m⟩, r⟩ := x
   obtain ⟨q, hq⟩ := NodeAt.ptr hN
   obtain rfl : r = .pointer q := hq
   obtain ⟨b, rfl, hb, e0, e1, e2, e3, e4⟩ := snap_cells HP.out.2.1 hx
   have e0 := (hbw.cell (p := ⟨b, k * 5, none⟩) hb).trans e0
   have e1 := (hbw.cell (p := ⟨b, k * 5 + 1, none⟩) hb).trans e1
   have e2 := (hbw.cell (p := ⟨b, k * 5 + 2, none⟩) hb).trans e2
   have e3 := (hbw.cell (p := ⟨b, k * 5 + 3, none⟩) hb).trans e3
   have e4 := (hbw.cell (p := ⟨b, k * 5 + 4, none⟩) hb).trans e4
   simp only at e0 e1 e2 e3 e4
   have HX := Lib.hid hxl
   have hk256 : k ≤ 256 := by omega
   clear hN hxl hx hbw
   go_upto_region 4 with (fail)
   have h0 := H1.out.2.alloc (.cells #[.int .i64 id, .int .i64 ten, .pointer q, .int .i64 (cnt m : Int), .int .i64 src] TSnap)
   have hsm2 := H1.out.1.alloc (.cells #[.int .i64 id, .int .i64 ten, .pointer q, .int .i64 (cnt m : Int), .int .i64 src] TSnap)
   generalize wr.alloc (.cells #[.int .i64 id, .int .i64 ten, .pointer q, .int .i64 (cnt m : Int), .int .i64 src] TSnap) = W2 at h0 hsm2 ⊢
   generalize wr.heap.size = B5 at h0 ⊢
   have H2 := Lib.hid (And.intro hsm2 h0)
   clear h0 hsm2 H1 e0 e1 e2 e3 e4
   have hS0 : W2.drew.cell? ⟨B5, 0, none⟩ = some (.int .i64 id) ∧ W2.drew.cell? ⟨B5, 1, none⟩ = some (.int .i64 ten) ∧ W2.drew.cell? ⟨B5, 2, none⟩ = some (.pointer q) ∧ W2.drew.cell? ⟨B5, 3, none⟩ = some (.int .i64 (cnt m : Int)) ∧ W2.drew.cell? ⟨B5, 4, none⟩ = some (.int .i64 src) := ⟨cells_at H2.out.2.drew.block 0, cells_at H2.out.2.drew.block 1, cells_at H2.out.2.drew.block 2, cells_at H2.out.2.drew.block 3, cells_at H2.out.2.drew.block 4⟩
   refine reg_begin (fun w' => w'.cell? ⟨B5, 0, none⟩ = some (.int .i64 id) ∧ w'.cell? ⟨B5, 1, none⟩ = some (.int .i64 ten) ∧ w'.cell? ⟨B5, 2, none⟩ = some (.pointer q) ∧ w'.cell? ⟨B5, 3, none⟩ = some (.int .i64 (cnt m : Int)) ∧ w'.cell? ⟨B5, 4, none⟩ = some (.int .i64 src)) (by kernel_rfl) ?_
   (apply reg_take 0 rfl rfl (by decide +kernel) rfl); (rintro w' ⟨h1, h2, h3, h4, h5⟩; go_simp; rfl); exact hS0; simp only [zq1, zq2, zq3]
   (apply reg_take 1 rfl rfl (by decide +kernel) rfl); (rintro w' ⟨h1, h2, h3, h4, h5⟩; go_simp; rfl); exact hS0; simp only [zq1, zq2, zq3]
   (apply reg_take 2 rfl rfl (by decide +kernel) rfl); (rintro w' ⟨h1, h2, h3, h4, h5⟩; go_simp; rfl); exact hS0; simp only [zq1, zq2, zq3]
   (apply reg_take 3 rfl rfl (by decide +kernel) rfl); (rintro w' ⟨h1, h2, h3, h4, h5⟩; go_simp; rfl); exact hS0; simp only [zq1, zq2, zq3]
   (apply reg_take 4 rfl rfl (by decide +kernel) rfl); (rintro w' ⟨h1, h2, h3, h4, h5⟩; go_simp; rfl); exact hS0; simp only [zq1, zq2, zq3]
   (apply reg_take 5 rfl rfl (by decide +kernel) rfl); (rintro w' ⟨h1, h2, h3, h4, h5⟩; go_simp; rfl); exact hS0; simp only [zq1, zq2, zq3]
   (apply reg_take 6 rfl rfl (by decide +kernel) rfl); (rintro w' ⟨h1, h2, h3, h4, h5⟩; go_simp; rfl); exact hS0; simp only [zq1, zq2, zq3]
   (apply reg_take 7 rfl rfl (by decide +kernel) rfl); (rintro w' ⟨h1, h2, h3, h4, h5⟩; go_simp; rfl); exact hS0; simp only [zq1, zq2, zq3]
   (apply reg_take 8 rfl rfl (by decide +kernel) rfl); (rintro w' ⟨h1, h2, h3, h4, h5⟩; go_simp; rfl); exact hS0; simp only [zq1, zq2, zq3]
   (apply reg_take 9 rfl rfl (by decide +kernel) rfl); (rintro w' ⟨h1, h2, h3, h4, h5⟩; go_simp; rfl); exact hS0; simp only [zq1, zq2, zq3]
   (apply reg_take 10 rfl rfl (by decide +kernel) rfl); (rintro w' ⟨h1, h2, h3, h4, h5⟩; go_simp; rfl); exact hS0; simp only [zq1, zq2, zq3]
   (apply reg_take 11 rfl rfl (by decide +kernel) rfl); (rintro w' ⟨h1, h2, h3, h4, h5⟩; go_simp; rfl); exact hS0; simp only [zq1, zq2, zq3]
   refine reg_call 12 rfl rfl (by decide +kernel) rfl (f := 85) (args := #[.agg #[.pointer q, .int .i64 (cnt m : Int)]]) (R := fun v w' => v = .int .i64 (cnt m : Int) ∧ w' = W2.drew.alloc (.cells #[.pointer q, .int .i64 (cnt m : Int)] TTree)) (by kernel_rfl)
    ((treeLen_any q (cnt m : Int) W2.drew).mono fun e w' h => ⟨_, h.1, rfl, h.2⟩) ?_
   rintro _ _ ⟨rfl, rfl⟩
   have h3 := (H2.out.2.drew.alloc (.cells #[.pointer q, .int .i64 (cnt m : Int)] TTree)).right
   have hsm3 := H2.out.1.drew.alloc (.cells #[.pointer q, .int .i64 (cnt m : Int)] TTree)
   generalize W2.drew.alloc (.cells #[.pointer q, .int .i64 (cnt m : Int)] TTree) = w3 at h3 hsm3 ⊢
   have hS3 : w3.cell? ⟨B5, 0, none⟩ = some (.int .i64 id) ∧ w3.cell? ⟨B5, 1, none⟩ = some (.int .i64 ten) ∧ w3.cell? ⟨B5, 2, none⟩ = some (.pointer q) ∧ w3.cell? ⟨B5, 3, none⟩ = some (.int .i64 (cnt m : Int)) ∧ w3.cell? ⟨B5, 4, none⟩ = some (.int .i64 src) := ⟨cells_at h3.block 0, cells_at h3.block 1, cells_at h3.block 2, cells_at h3.block 3, cells_at h3.block 4⟩
   refine ⟨hS3, ?_⟩
   simp only [zq1, zq2, zq3]
   (apply reg_take 13 rfl rfl (by decide +kernel) rfl); (rintro w' ⟨h1, h2, h3, h4, h5⟩; go_simp; rfl); exact hS3; simp only [zq1, zq2, zq3]
   have hA4 := h3.alloc (.cells #[.int .i64 id, .int .i64 src, .int .i64 ten, .int .i64 (cnt m : Int)] TSi)
   have hS4 : (w3.alloc (.cells #[.int .i64 id, .int .i64 src, .int .i64 ten, .int .i64 (cnt m : Int)] TSi)).cell? ⟨B5, 0, none⟩ = some (.int .i64 id) ∧ (w3.alloc (.cells #[.int .i64 id, .int .i64 src, .int .i64 ten, .int .i64 (cnt m : Int)] TSi)).cell? ⟨B5, 1, none⟩ = some (.int .i64 ten) ∧ (w3.alloc (.cells #[.int .i64 id, .int .i64 src, .int .i64 ten, .int .i64 (cnt m : Int)] TSi)).cell? ⟨B5, 2, none⟩ = some (.pointer q) ∧ (w3.alloc (.cells #[.int .i64 id, .int .i64 src, .int .i64 ten, .int .i64 (cnt m : Int)] TSi)).cell? ⟨B5, 3, none⟩ = some (.int .i64 (cnt m : Int)) ∧ (w3.alloc (.cells #[.int .i64 id, .int .i64 src, .int .i64 ten, .int .i64 (cnt m : Int)] TSi)).cell? ⟨B5, 4, none⟩ = some (.int .i64 src) := ⟨cells_at hA4.right.block 0, cells_at hA4.right.block 1, cells_at hA4.right.block 2, cells_at hA4.right.block 3, cells_at hA4.right.block 4⟩
   refine reg_run 14 (.slice (some ⟨w3.heap.size, 0, none⟩) 1 1) (w3.alloc (.cells #[.int .i64 id, .int .i64 src, .int .i64 ten, .int .i64 (cnt m : Int)] TSi)) rfl rfl (by decide +kernel) rfl (by go_simp) (hS4) ?_; simp only [zq1, zq2, zq3]
   have hA5 := hA4.perm (show _ = ownAt TSi 4 (.slice ra k rc) k ((S.snaps.take k).flatMap siE) * (pts w3.heap.size (.cells #[.int .i64 id, .int .i64 src, .int .i64 ten, .int .i64 (cnt m : Int)] TSi (0, 0)) * (pts B5 (.cells #[.int .i64 id, .int .i64 ten, .pointer q, .int .i64 (cnt m : Int), .int .i64 src] TSnap (0, 0)) * old w)) from by ac_rfl)
   obtain ⟨ti, hti, hz0, hts, hz2⟩ := info_parts info_si
   obtain ⟨v', w5, hr, hsm5, hs5⟩ := run_append_ownAt (P := Tryz.prog) 145 145 TSi ti _ Tryz.underlying145 hti hz0 (by rw [hts]; rfl) (.slice ra k rc) k ((S.snaps.take k).flatMap siE) (by rw [hts]; exact hA5) ⟨w3.heap.size, 0, none⟩ 1 1 [.int .i64 id, .int .i64 src, .int .i64 ten, .int .i64 (cnt m : Int)] (by rw [hts]; rfl)
    (by intro j u hu; rw [Addr.add_mid, cells_at hA5.right.block, Nat.zero_add]; simpa using hu) (by simp [Value.oneCell']) (by unfold maxLen; omega) (by rw [hz2]; omega)
   rw [hts] at hs5
   have hS6 : w5.cell? ⟨B5, 0, none⟩ = some (.int .i64 id) ∧ w5.cell? ⟨B5, 1, none⟩ = some (.int .i64 ten) ∧ w5.cell? ⟨B5, 2, none⟩ = some (.pointer q) ∧ w5.cell? ⟨B5, 3, none⟩ = some (.int .i64 (cnt m : Int)) ∧ w5.cell? ⟨B5, 4, none⟩ = some (.int .i64 src) := ⟨cells_at hs5.right.right.block 0, cells_at hs5.right.right.block 1, cells_at hs5.right.right.block 2, cells_at hs5.right.right.block 3, cells_at hs5.right.right.block 4⟩
   refine reg_run 15 (v') (w5) rfl rfl (by decide +kernel) rfl (exec_app27 rfl rfl rfl hr) (hS6) ?_; simp only [zq1, zq2, zq3]
   obtain ⟨ao', cp', rfl⟩ := ownAt_slice hs5
   (apply reg_take 16 rfl rfl (by decide +kernel) rfl); (rintro w' ⟨h1, h2, h3, h4, h5⟩; go_simp; rfl); exact hS6; simp only [zq1, zq2, zq3]
   refine reg_done (by decide +kernel) ?_
   have H6 := Lib.hid (And.intro ((hsm3.alloc (.cells #[.int .i64 id, .int .i64 src, .int .i64 ten, .int .i64 (cnt m : Int)] TSi)).trans hsm5) hs5)
   clear hS0 hS3 hS4 hS6 hA4 hA5 h3 hsm3 hsm5 hs5 hr hti hz0 hts hz2
   go_wp2
   refine ⟨⟨⟨k + 1, by rw [HLL.out.1]; omega, by rw [Int.natCast_add]; rfl, H6.out.1, ?_⟩⟩, by simp only [intOf]; omega⟩
   have htk : S.snaps.take (k + 1) = S.snaps.take k ++ [⟨id, ten, src, m⟩] := by rw [List.take_add_one, HX.out]; rfl
   rw [htk, List.flatMap_append]
   exact Sat.right (P := pts w3.heap.size (.cells #[.int .i64 id, .int .i64 src, .int .i64 ten, .int .i64 (cnt m : Int)] TSi (0, 0)) * pts B5 (.cells #[.int .i64 id, .int .i64 ten, .pointer q, .int .i64 (cnt m : Int), .int .i64 src] TSnap (0, 0))) (H6.out.2.perm (by show ownAt TSi 4 _ _ (_ ++ [.int .i64 id, .int .i64 src, .int .i64 ten, .int .i64 (cnt m : Int)]) * _ = _ * (ownAt TSi 4 _ _ (_ ++ [.int .i64 id, .int .i64 src, .int .i64 ten, .int .i64 (cnt m : Int)]) * _); ac_rfl))
  ·have hke : k = S.snaps.length := by rw [HLL.out.1] at hk ⊢; omega
   have hltd : decide ((k : Int) < (ls.length : Int)) = false := decide_eq_false (by omega)
   clear hbw
   go_wp2
   go_ret
   subst hke
   rw [List.take_length] at H1
   exact ⟨_, rfl, H1.out⟩
end Go.Proofs.YteikbikopgabjaaGreatDoor
namespace Go.Proofs.YteikbikopgabjaaGreatDoor
open Go.RowKit Go.Vol Go.Sl
end Go.Proofs.YteikbikopgabjaaGreatDoor
namespace Go.Proofs.YteikbikopgabjaaGreatDoor
open Go.RowKit Go.Vol Go.Sl
end Go.Proofs.YteikbikopgabjaaGreatDoor
