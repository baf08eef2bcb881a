import Derived.Test.YtmgcgdkndkibgaaGreatWv
import Derived.Test.YtmgcgdkndkibgaaGreatUa
import Derived.Test.YtmgcgdkndkibgaaGreatAu
import Derived.Laws.MakeOwn
/- Volumes and Snaps: the rows that they hand back are their own. Printed by av.py out of XWv. -/
namespace Go.Proofs.YtmgcgdkndkibgaaGreat
open Go.RowKit Go.Vol Go.Sl

set_option maxRecDepth 20000 in
set_option maxHeartbeats 4000000 in
theorem volsO_any (p : Nat) (S : SpaceM) (w : World) (hS : SpaceAt TNode TSp w p S) (hwf : S.WF) :
    Calls Tryz.prog 29 #[.pointer (some ⟨p, 0, none⟩)] w fun e w' => ∃ v, e = .returned v ∧ Hid (Same w w' ∧ Sat w' (ownAt TVi 3 v S.vols.length (S.vols.flatMap viE) * old w)) := by
  obtain ⟨lv, ls, hlv, hls, ⟨vv, vs, hp, hrv, hrs⟩, hev, hes⟩ := hS
  obtain ⟨ao, cap, rfl, hvx⟩ := id hrv
  obtain ⟨so, scap, rfl, hsx⟩ := id hrs
  obtain ⟨c0, c1, hpl⟩ := sp_cells hp
  have HP := Lib.hid (And.intro hrv (And.intro hrs (And.intro hev (And.intro hes (And.intro hlv hls)))))
  have hll : S.vols.length = lv.length := by rw [← hlv, List.length_map]
  have hlen : lv.length ≤ 256 := by have := hwf.vlen; rw [hll] at this; omega
  have HLL := Lib.hid (And.intro hll hlen)
  clear hp hrv hrs hev hes hlv hls hwf hvx hsx hll
  go_enter Tryz.func29, Tryz.ntmps29
  go_wp2
  clear c0 c1
  go_loopw [2, 10] (fun v i wr => ListSt TVi 3 viE w S.vols v i wr) (fun _ i _ => lv.length - (intOf i).toNat)
  case atStart => exact ⟨⟨0, Nat.zero_le _, rfl, Same.refl w, ownAt_nil.2 (Sat.old w)⟩⟩
  case round =>
    obtain ⟨k, hk, rfl, hsm, hs⟩ := hrel.st
    clear hrel
    obtain ⟨ra, rc, rfl⟩ := ownAt_slice hs
    have hbw := hsm.below_of hs
    have H1 := Lib.hid (And.intro hsm hs)
    clear hsm hs
    by_cases hlt : k < lv.length
    · have hltd : decide ((k : Int) < (lv.length : Int)) = true := decide_eq_true (by omega)
      obtain ⟨x, hx⟩ : ∃ x, lv[k]? = some x := ⟨_, List.getElem?_eq_getElem hlt⟩
      have hxl : S.vols[k]? = some x.1 := by rw [← HP.out.2.2.2.2.1, List.getElem?_map, hx]; rfl
      have hN := HP.out.2.2.1 x (List.mem_of_getElem? hx)
      obtain ⟨⟨id, ten, src, m⟩, r⟩ := x
      obtain ⟨q, hq⟩ := NodeAt.ptr hN
      obtain rfl : r = .pointer q := hq
      obtain ⟨b, rfl, hb, e0, e1, e2, e3⟩ := vol_cells HP.out.1 hx
      have e0 := (hbw.cell (p := ⟨b, k * 4, none⟩) hb).trans e0
      have e1 := (hbw.cell (p := ⟨b, k * 4 + 1, none⟩) hb).trans e1
      have e2 := (hbw.cell (p := ⟨b, k * 4 + 2, none⟩) hb).trans e2
      have e3 := (hbw.cell (p := ⟨b, k * 4 + 3, none⟩) hb).trans e3
      simp only at e0 e1 e2 e3
      have HX := Lib.hid hxl
      have hk256 : k ≤ 256 := by omega
      clear hN hxl hx hbw
      go_upto_region 4 with (fail)
      have h0 := H1.out.2.alloc (.cells #[.int .i64 id, .int .i64 ten, .pointer q, .int .i64 (cnt m : Int)] TVol)
      have hsm2 := H1.out.1.alloc (.cells #[.int .i64 id, .int .i64 ten, .pointer q, .int .i64 (cnt m : Int)] TVol)
      generalize wr.alloc (.cells #[.int .i64 id, .int .i64 ten, .pointer q, .int .i64 (cnt m : Int)] TVol) = W2 at h0 hsm2 ⊢
      generalize wr.heap.size = B5 at h0 ⊢
      have H2 := Lib.hid (And.intro hsm2 h0)
      clear h0 hsm2 H1 e0 e1 e2 e3
      have hS0 : W2.drew.cell? ⟨B5, 0, none⟩ = some (.int .i64 id) ∧ W2.drew.cell? ⟨B5, 1, none⟩ = some (.int .i64 ten) ∧ W2.drew.cell? ⟨B5, 2, none⟩ = some (.pointer q) ∧ W2.drew.cell? ⟨B5, 3, none⟩ = some (.int .i64 (cnt m : Int)) := ⟨cells_at H2.out.2.drew.block 0, cells_at H2.out.2.drew.block 1, cells_at H2.out.2.drew.block 2, cells_at H2.out.2.drew.block 3⟩
      refine reg_begin (fun w' => w'.cell? ⟨B5, 0, none⟩ = some (.int .i64 id) ∧ w'.cell? ⟨B5, 1, none⟩ = some (.int .i64 ten) ∧ w'.cell? ⟨B5, 2, none⟩ = some (.pointer q) ∧ w'.cell? ⟨B5, 3, none⟩ = some (.int .i64 (cnt m : Int))) (by kernel_rfl) ?_
      (apply reg_take 0 rfl rfl (by decide +kernel) rfl); (rintro w' ⟨h1, h2, h3, h4⟩; go_simp; rfl); exact hS0; simp only [List.setIfInBounds_toArray, List.set_cons_succ, List.set_cons_zero]
      (apply reg_take 1 rfl rfl (by decide +kernel) rfl); (rintro w' ⟨h1, h2, h3, h4⟩; go_simp; rfl); exact hS0; simp only [List.setIfInBounds_toArray, List.set_cons_succ, List.set_cons_zero]
      (apply reg_take 2 rfl rfl (by decide +kernel) rfl); (rintro w' ⟨h1, h2, h3, h4⟩; go_simp; rfl); exact hS0; simp only [List.setIfInBounds_toArray, List.set_cons_succ, List.set_cons_zero]
      (apply reg_take 3 rfl rfl (by decide +kernel) rfl); (rintro w' ⟨h1, h2, h3, h4⟩; go_simp; rfl); exact hS0; simp only [List.setIfInBounds_toArray, List.set_cons_succ, List.set_cons_zero]
      (apply reg_take 4 rfl rfl (by decide +kernel) rfl); (rintro w' ⟨h1, h2, h3, h4⟩; go_simp; rfl); exact hS0; simp only [List.setIfInBounds_toArray, List.set_cons_succ, List.set_cons_zero]
      (apply reg_take 5 rfl rfl (by decide +kernel) rfl); (rintro w' ⟨h1, h2, h3, h4⟩; go_simp; rfl); exact hS0; simp only [List.setIfInBounds_toArray, List.set_cons_succ, List.set_cons_zero]
      (apply reg_take 6 rfl rfl (by decide +kernel) rfl); (rintro w' ⟨h1, h2, h3, h4⟩; go_simp; rfl); exact hS0; simp only [List.setIfInBounds_toArray, List.set_cons_succ, List.set_cons_zero]
      (apply reg_take 7 rfl rfl (by decide +kernel) rfl); (rintro w' ⟨h1, h2, h3, h4⟩; go_simp; rfl); exact hS0; simp only [List.setIfInBounds_toArray, List.set_cons_succ, List.set_cons_zero]
      (apply reg_take 8 rfl rfl (by decide +kernel) rfl); (rintro w' ⟨h1, h2, h3, h4⟩; go_simp; rfl); exact hS0; simp only [List.setIfInBounds_toArray, List.set_cons_succ, List.set_cons_zero]
      (apply reg_take 9 rfl rfl (by decide +kernel) rfl); (rintro w' ⟨h1, h2, h3, h4⟩; go_simp; rfl); exact hS0; simp only [List.setIfInBounds_toArray, List.set_cons_succ, List.set_cons_zero]
      refine reg_call 10 rfl rfl (by decide +kernel) rfl (f := 48) (args := #[.agg #[.pointer q, .int .i64 (cnt m : Int)]]) (R := fun v w' => v = .int .i64 (cnt m : Int) ∧ w' = W2.drew.alloc (.cells #[.pointer q, .int .i64 (cnt m : Int)] TTree)) (by kernel_rfl)
        ((treeLen_any q (cnt m : Int) W2.drew).mono fun e w' h => ⟨_, h.1, rfl, h.2⟩) ?_
      rintro _ _ ⟨rfl, rfl⟩
      have h3 := (H2.out.2.drew.alloc (.cells #[.pointer q, .int .i64 (cnt m : Int)] TTree)).right
      have hsm3 := H2.out.1.drew.alloc (.cells #[.pointer q, .int .i64 (cnt m : Int)] TTree)
      generalize W2.drew.alloc (.cells #[.pointer q, .int .i64 (cnt m : Int)] TTree) = w3 at h3 hsm3 ⊢
      have hS3 : w3.cell? ⟨B5, 0, none⟩ = some (.int .i64 id) ∧ w3.cell? ⟨B5, 1, none⟩ = some (.int .i64 ten) ∧ w3.cell? ⟨B5, 2, none⟩ = some (.pointer q) ∧ w3.cell? ⟨B5, 3, none⟩ = some (.int .i64 (cnt m : Int)) := ⟨cells_at h3.block 0, cells_at h3.block 1, cells_at h3.block 2, cells_at h3.block 3⟩
      refine ⟨hS3, ?_⟩
      simp only [List.setIfInBounds_toArray, List.set_cons_succ, List.set_cons_zero]
      (apply reg_take 11 rfl rfl (by decide +kernel) rfl); (rintro w' ⟨h1, h2, h3, h4⟩; go_simp; rfl); exact hS3; simp only [List.setIfInBounds_toArray, List.set_cons_succ, List.set_cons_zero]
      have hA4 := h3.alloc (.cells #[.int .i64 id, .int .i64 ten, .int .i64 (cnt m : Int)] TVi)
      have hS4 : (w3.alloc (.cells #[.int .i64 id, .int .i64 ten, .int .i64 (cnt m : Int)] TVi)).cell? ⟨B5, 0, none⟩ = some (.int .i64 id) ∧ (w3.alloc (.cells #[.int .i64 id, .int .i64 ten, .int .i64 (cnt m : Int)] TVi)).cell? ⟨B5, 1, none⟩ = some (.int .i64 ten) ∧ (w3.alloc (.cells #[.int .i64 id, .int .i64 ten, .int .i64 (cnt m : Int)] TVi)).cell? ⟨B5, 2, none⟩ = some (.pointer q) ∧ (w3.alloc (.cells #[.int .i64 id, .int .i64 ten, .int .i64 (cnt m : Int)] TVi)).cell? ⟨B5, 3, none⟩ = some (.int .i64 (cnt m : Int)) := ⟨cells_at hA4.right.block 0, cells_at hA4.right.block 1, cells_at hA4.right.block 2, cells_at hA4.right.block 3⟩
      refine reg_run 12 (.slice (some ⟨w3.heap.size, 0, none⟩) 1 1) (w3.alloc (.cells #[.int .i64 id, .int .i64 ten, .int .i64 (cnt m : Int)] TVi)) rfl rfl (by decide +kernel) rfl (by go_simp) (hS4) ?_; simp only [List.setIfInBounds_toArray, List.set_cons_succ, List.set_cons_zero]
      have hA5 := hA4.perm (show _ = ownAt TVi 3 (.slice ra k rc) k ((S.vols.take k).flatMap viE) * (pts w3.heap.size (.cells #[.int .i64 id, .int .i64 ten, .int .i64 (cnt m : Int)] TVi (0, 0)) * (pts B5 (.cells #[.int .i64 id, .int .i64 ten, .pointer q, .int .i64 (cnt m : Int)] TVol (0, 0)) * old w)) from by ac_rfl)
      obtain ⟨ti, hti, hz0, hts, hz2⟩ := info_parts info_vi
      obtain ⟨v', w5, hr, hsm5, hs5⟩ := run_append_ownAt (P := Tryz.prog) 57 57 TVi ti _ Tryz.underlying57 hti hz0 (by rw [hts]; rfl) (.slice ra k rc) k ((S.vols.take k).flatMap viE) (by rw [hts]; exact hA5) ⟨w3.heap.size, 0, none⟩ 1 1 [.int .i64 id, .int .i64 ten, .int .i64 (cnt m : Int)] (by rw [hts]; rfl)
        (by intro j u hu; rw [Addr.add_mid, cells_at hA5.right.block, Nat.zero_add]; simpa using hu) (by simp [Value.oneCell']) (by unfold maxLen; omega) (by rw [hz2]; omega)
      rw [hts] at hs5
      have hS6 : w5.cell? ⟨B5, 0, none⟩ = some (.int .i64 id) ∧ w5.cell? ⟨B5, 1, none⟩ = some (.int .i64 ten) ∧ w5.cell? ⟨B5, 2, none⟩ = some (.pointer q) ∧ w5.cell? ⟨B5, 3, none⟩ = some (.int .i64 (cnt m : Int)) := ⟨cells_at hs5.right.right.block 0, cells_at hs5.right.right.block 1, cells_at hs5.right.right.block 2, cells_at hs5.right.right.block 3⟩
      refine reg_run 13 (v') (w5) rfl rfl (by decide +kernel) rfl (exec_app27 rfl rfl rfl hr) (hS6) ?_; simp only [List.setIfInBounds_toArray, List.set_cons_succ, List.set_cons_zero]
      obtain ⟨ao', cp', rfl⟩ := ownAt_slice hs5
      (apply reg_take 14 rfl rfl (by decide +kernel) rfl); (rintro w' ⟨h1, h2, h3, h4⟩; go_simp; rfl); exact hS6; simp only [List.setIfInBounds_toArray, List.set_cons_succ, List.set_cons_zero]
      refine reg_done (by decide +kernel) ?_
      have H6 := Lib.hid (And.intro ((hsm3.alloc (.cells #[.int .i64 id, .int .i64 ten, .int .i64 (cnt m : Int)] TVi)).trans hsm5) hs5)
      clear hS0 hS3 hS4 hS6 hA4 hA5 h3 hsm3 hsm5 hs5 hr hti hz0 hts hz2
      go_wp2
      refine ⟨⟨⟨k + 1, by rw [HLL.out.1]; omega, by rw [Int.natCast_add]; rfl, H6.out.1, ?_⟩⟩, by simp only [intOf]; omega⟩
      have htk : S.vols.take (k + 1) = S.vols.take k ++ [⟨id, ten, src, m⟩] := by rw [List.take_add_one, HX.out]; rfl
      rw [htk, List.flatMap_append]
      exact Sat.right (P := pts w3.heap.size (.cells #[.int .i64 id, .int .i64 ten, .int .i64 (cnt m : Int)] TVi (0, 0)) * pts B5 (.cells #[.int .i64 id, .int .i64 ten, .pointer q, .int .i64 (cnt m : Int)] TVol (0, 0))) (H6.out.2.perm (by show ownAt TVi 3 _ _ (_ ++ [.int .i64 id, .int .i64 ten, .int .i64 (cnt m : Int)]) * _ = _ * (ownAt TVi 3 _ _ (_ ++ [.int .i64 id, .int .i64 ten, .int .i64 (cnt m : Int)]) * _); ac_rfl))
    · have hke : k = S.vols.length := by rw [HLL.out.1] at hk ⊢; omega
      have hltd : decide ((k : Int) < (lv.length : Int)) = false := decide_eq_false (by omega)
      clear hbw
      go_wp2
      go_ret
      subst hke
      rw [List.take_length] at H1
      exact ⟨_, rfl, H1.out⟩

set_option maxRecDepth 20000 in
set_option maxHeartbeats 4000000 in
theorem snapsO_any (p : Nat) (S : SpaceM) (w : World) (hS : SpaceAt TNode TSp w p S) (hwf : S.WF) :
    Calls Tryz.prog 30 #[.pointer (some ⟨p, 0, none⟩)] w fun e w' => ∃ v, e = .returned v ∧ Hid (Same w w' ∧ Sat w' (ownAt TSi 4 v S.snaps.length (S.snaps.flatMap siE) * old w)) := by
  obtain ⟨lv, ls, hlv, hls, ⟨vv, vs, hp, hrv, hrs⟩, hev, hes⟩ := hS
  obtain ⟨ao, cap, rfl, hvx⟩ := id hrv
  obtain ⟨so, scap, rfl, hsx⟩ := id hrs
  obtain ⟨c0, c1, hpl⟩ := sp_cells hp
  have HP := Lib.hid (And.intro hrv (And.intro hrs (And.intro hev (And.intro hes (And.intro hlv hls)))))
  have hll : S.snaps.length = ls.length := by rw [← hls, List.length_map]
  have hlen : ls.length ≤ 256 := by have := hwf.slen; rw [hll] at this; omega
  have HLL := Lib.hid (And.intro hll hlen)
  clear hp hrv hrs hev hes hlv hls hwf hvx hsx hll
  go_enter Tryz.func30, Tryz.ntmps30
  go_wp2
  clear c0 c1
  go_loopw [2, 10] (fun v i wr => ListSt TSi 4 siE w S.snaps v i wr) (fun _ i _ => ls.length - (intOf i).toNat)
  case atStart => exact ⟨⟨0, Nat.zero_le _, rfl, Same.refl w, ownAt_nil.2 (Sat.old w)⟩⟩
  case round =>
    obtain ⟨k, hk, rfl, hsm, hs⟩ := hrel.st
    clear hrel
    obtain ⟨ra, rc, rfl⟩ := ownAt_slice hs
    have hbw := hsm.below_of hs
    have H1 := Lib.hid (And.intro hsm hs)
    clear hsm hs
    by_cases hlt : k < ls.length
    · have hltd : decide ((k : Int) < (ls.length : Int)) = true := decide_eq_true (by omega)
      obtain ⟨x, hx⟩ : ∃ x, ls[k]? = some x := ⟨_, List.getElem?_eq_getElem hlt⟩
      have hxl : S.snaps[k]? = some x.1 := by rw [← HP.out.2.2.2.2.2, List.getElem?_map, hx]; rfl
      have hN := HP.out.2.2.2.1 x (List.mem_of_getElem? hx)
      obtain ⟨⟨id, ten, src, m⟩, r⟩ := x
      obtain ⟨q, hq⟩ := NodeAt.ptr hN
      obtain rfl : r = .pointer q := hq
      obtain ⟨b, rfl, hb, e0, e1, e2, e3, e4⟩ := snap_cells HP.out.2.1 hx
      have e0 := (hbw.cell (p := ⟨b, k * 5, none⟩) hb).trans e0
      have e1 := (hbw.cell (p := ⟨b, k * 5 + 1, none⟩) hb).trans e1
      have e2 := (hbw.cell (p := ⟨b, k * 5 + 2, none⟩) hb).trans e2
      have e3 := (hbw.cell (p := ⟨b, k * 5 + 3, none⟩) hb).trans e3
      have e4 := (hbw.cell (p := ⟨b, k * 5 + 4, none⟩) hb).trans e4
      simp only at e0 e1 e2 e3 e4
      have HX := Lib.hid hxl
      have hk256 : k ≤ 256 := by omega
      clear hN hxl hx hbw
      go_upto_region 4 with (fail)
      have h0 := H1.out.2.alloc (.cells #[.int .i64 id, .int .i64 ten, .pointer q, .int .i64 (cnt m : Int), .int .i64 src] TSnap)
      have hsm2 := H1.out.1.alloc (.cells #[.int .i64 id, .int .i64 ten, .pointer q, .int .i64 (cnt m : Int), .int .i64 src] TSnap)
      generalize wr.alloc (.cells #[.int .i64 id, .int .i64 ten, .pointer q, .int .i64 (cnt m : Int), .int .i64 src] TSnap) = W2 at h0 hsm2 ⊢
      generalize wr.heap.size = B5 at h0 ⊢
      have H2 := Lib.hid (And.intro hsm2 h0)
      clear h0 hsm2 H1 e0 e1 e2 e3 e4
      have hS0 : W2.drew.cell? ⟨B5, 0, none⟩ = some (.int .i64 id) ∧ W2.drew.cell? ⟨B5, 1, none⟩ = some (.int .i64 ten) ∧ W2.drew.cell? ⟨B5, 2, none⟩ = some (.pointer q) ∧ W2.drew.cell? ⟨B5, 3, none⟩ = some (.int .i64 (cnt m : Int)) ∧ W2.drew.cell? ⟨B5, 4, none⟩ = some (.int .i64 src) := ⟨cells_at H2.out.2.drew.block 0, cells_at H2.out.2.drew.block 1, cells_at H2.out.2.drew.block 2, cells_at H2.out.2.drew.block 3, cells_at H2.out.2.drew.block 4⟩
      refine reg_begin (fun w' => w'.cell? ⟨B5, 0, none⟩ = some (.int .i64 id) ∧ w'.cell? ⟨B5, 1, none⟩ = some (.int .i64 ten) ∧ w'.cell? ⟨B5, 2, none⟩ = some (.pointer q) ∧ w'.cell? ⟨B5, 3, none⟩ = some (.int .i64 (cnt m : Int)) ∧ w'.cell? ⟨B5, 4, none⟩ = some (.int .i64 src)) (by kernel_rfl) ?_
      (apply reg_take 0 rfl rfl (by decide +kernel) rfl); (rintro w' ⟨h1, h2, h3, h4, h5⟩; go_simp; rfl); exact hS0; simp only [List.setIfInBounds_toArray, List.set_cons_succ, List.set_cons_zero]
      (apply reg_take 1 rfl rfl (by decide +kernel) rfl); (rintro w' ⟨h1, h2, h3, h4, h5⟩; go_simp; rfl); exact hS0; simp only [List.setIfInBounds_toArray, List.set_cons_succ, List.set_cons_zero]
      (apply reg_take 2 rfl rfl (by decide +kernel) rfl); (rintro w' ⟨h1, h2, h3, h4, h5⟩; go_simp; rfl); exact hS0; simp only [List.setIfInBounds_toArray, List.set_cons_succ, List.set_cons_zero]
      (apply reg_take 3 rfl rfl (by decide +kernel) rfl); (rintro w' ⟨h1, h2, h3, h4, h5⟩; go_simp; rfl); exact hS0; simp only [List.setIfInBounds_toArray, List.set_cons_succ, List.set_cons_zero]
      (apply reg_take 4 rfl rfl (by decide +kernel) rfl); (rintro w' ⟨h1, h2, h3, h4, h5⟩; go_simp; rfl); exact hS0; simp only [List.setIfInBounds_toArray, List.set_cons_succ, List.set_cons_zero]
      (apply reg_take 5 rfl rfl (by decide +kernel) rfl); (rintro w' ⟨h1, h2, h3, h4, h5⟩; go_simp; rfl); exact hS0; simp only [List.setIfInBounds_toArray, List.set_cons_succ, List.set_cons_zero]
      (apply reg_take 6 rfl rfl (by decide +kernel) rfl); (rintro w' ⟨h1, h2, h3, h4, h5⟩; go_simp; rfl); exact hS0; simp only [List.setIfInBounds_toArray, List.set_cons_succ, List.set_cons_zero]
      (apply reg_take 7 rfl rfl (by decide +kernel) rfl); (rintro w' ⟨h1, h2, h3, h4, h5⟩; go_simp; rfl); exact hS0; simp only [List.setIfInBounds_toArray, List.set_cons_succ, List.set_cons_zero]
      (apply reg_take 8 rfl rfl (by decide +kernel) rfl); (rintro w' ⟨h1, h2, h3, h4, h5⟩; go_simp; rfl); exact hS0; simp only [List.setIfInBounds_toArray, List.set_cons_succ, List.set_cons_zero]
      (apply reg_take 9 rfl rfl (by decide +kernel) rfl); (rintro w' ⟨h1, h2, h3, h4, h5⟩; go_simp; rfl); exact hS0; simp only [List.setIfInBounds_toArray, List.set_cons_succ, List.set_cons_zero]
      (apply reg_take 10 rfl rfl (by decide +kernel) rfl); (rintro w' ⟨h1, h2, h3, h4, h5⟩; go_simp; rfl); exact hS0; simp only [List.setIfInBounds_toArray, List.set_cons_succ, List.set_cons_zero]
      (apply reg_take 11 rfl rfl (by decide +kernel) rfl); (rintro w' ⟨h1, h2, h3, h4, h5⟩; go_simp; rfl); exact hS0; simp only [List.setIfInBounds_toArray, List.set_cons_succ, List.set_cons_zero]
      refine reg_call 12 rfl rfl (by decide +kernel) rfl (f := 48) (args := #[.agg #[.pointer q, .int .i64 (cnt m : Int)]]) (R := fun v w' => v = .int .i64 (cnt m : Int) ∧ w' = W2.drew.alloc (.cells #[.pointer q, .int .i64 (cnt m : Int)] TTree)) (by kernel_rfl)
        ((treeLen_any q (cnt m : Int) W2.drew).mono fun e w' h => ⟨_, h.1, rfl, h.2⟩) ?_
      rintro _ _ ⟨rfl, rfl⟩
      have h3 := (H2.out.2.drew.alloc (.cells #[.pointer q, .int .i64 (cnt m : Int)] TTree)).right
      have hsm3 := H2.out.1.drew.alloc (.cells #[.pointer q, .int .i64 (cnt m : Int)] TTree)
      generalize W2.drew.alloc (.cells #[.pointer q, .int .i64 (cnt m : Int)] TTree) = w3 at h3 hsm3 ⊢
      have hS3 : w3.cell? ⟨B5, 0, none⟩ = some (.int .i64 id) ∧ w3.cell? ⟨B5, 1, none⟩ = some (.int .i64 ten) ∧ w3.cell? ⟨B5, 2, none⟩ = some (.pointer q) ∧ w3.cell? ⟨B5, 3, none⟩ = some (.int .i64 (cnt m : Int)) ∧ w3.cell? ⟨B5, 4, none⟩ = some (.int .i64 src) := ⟨cells_at h3.block 0, cells_at h3.block 1, cells_at h3.block 2, cells_at h3.block 3, cells_at h3.block 4⟩
      refine ⟨hS3, ?_⟩
      simp only [List.setIfInBounds_toArray, List.set_cons_succ, List.set_cons_zero]
      (apply reg_take 13 rfl rfl (by decide +kernel) rfl); (rintro w' ⟨h1, h2, h3, h4, h5⟩; go_simp; rfl); exact hS3; simp only [List.setIfInBounds_toArray, List.set_cons_succ, List.set_cons_zero]
      have hA4 := h3.alloc (.cells #[.int .i64 id, .int .i64 src, .int .i64 ten, .int .i64 (cnt m : Int)] TSi)
      have hS4 : (w3.alloc (.cells #[.int .i64 id, .int .i64 src, .int .i64 ten, .int .i64 (cnt m : Int)] TSi)).cell? ⟨B5, 0, none⟩ = some (.int .i64 id) ∧ (w3.alloc (.cells #[.int .i64 id, .int .i64 src, .int .i64 ten, .int .i64 (cnt m : Int)] TSi)).cell? ⟨B5, 1, none⟩ = some (.int .i64 ten) ∧ (w3.alloc (.cells #[.int .i64 id, .int .i64 src, .int .i64 ten, .int .i64 (cnt m : Int)] TSi)).cell? ⟨B5, 2, none⟩ = some (.pointer q) ∧ (w3.alloc (.cells #[.int .i64 id, .int .i64 src, .int .i64 ten, .int .i64 (cnt m : Int)] TSi)).cell? ⟨B5, 3, none⟩ = some (.int .i64 (cnt m : Int)) ∧ (w3.alloc (.cells #[.int .i64 id, .int .i64 src, .int .i64 ten, .int .i64 (cnt m : Int)] TSi)).cell? ⟨B5, 4, none⟩ = some (.int .i64 src) := ⟨cells_at hA4.right.block 0, cells_at hA4.right.block 1, cells_at hA4.right.block 2, cells_at hA4.right.block 3, cells_at hA4.right.block 4⟩
      refine reg_run 14 (.slice (some ⟨w3.heap.size, 0, none⟩) 1 1) (w3.alloc (.cells #[.int .i64 id, .int .i64 src, .int .i64 ten, .int .i64 (cnt m : Int)] TSi)) rfl rfl (by decide +kernel) rfl (by go_simp) (hS4) ?_; simp only [List.setIfInBounds_toArray, List.set_cons_succ, List.set_cons_zero]
      have hA5 := hA4.perm (show _ = ownAt TSi 4 (.slice ra k rc) k ((S.snaps.take k).flatMap siE) * (pts w3.heap.size (.cells #[.int .i64 id, .int .i64 src, .int .i64 ten, .int .i64 (cnt m : Int)] TSi (0, 0)) * (pts B5 (.cells #[.int .i64 id, .int .i64 ten, .pointer q, .int .i64 (cnt m : Int), .int .i64 src] TSnap (0, 0)) * old w)) from by ac_rfl)
      obtain ⟨ti, hti, hz0, hts, hz2⟩ := info_parts info_si
      obtain ⟨v', w5, hr, hsm5, hs5⟩ := run_append_ownAt (P := Tryz.prog) 61 61 TSi ti _ Tryz.underlying61 hti hz0 (by rw [hts]; rfl) (.slice ra k rc) k ((S.snaps.take k).flatMap siE) (by rw [hts]; exact hA5) ⟨w3.heap.size, 0, none⟩ 1 1 [.int .i64 id, .int .i64 src, .int .i64 ten, .int .i64 (cnt m : Int)] (by rw [hts]; rfl)
        (by intro j u hu; rw [Addr.add_mid, cells_at hA5.right.block, Nat.zero_add]; simpa using hu) (by simp [Value.oneCell']) (by unfold maxLen; omega) (by rw [hz2]; omega)
      rw [hts] at hs5
      have hS6 : w5.cell? ⟨B5, 0, none⟩ = some (.int .i64 id) ∧ w5.cell? ⟨B5, 1, none⟩ = some (.int .i64 ten) ∧ w5.cell? ⟨B5, 2, none⟩ = some (.pointer q) ∧ w5.cell? ⟨B5, 3, none⟩ = some (.int .i64 (cnt m : Int)) ∧ w5.cell? ⟨B5, 4, none⟩ = some (.int .i64 src) := ⟨cells_at hs5.right.right.block 0, cells_at hs5.right.right.block 1, cells_at hs5.right.right.block 2, cells_at hs5.right.right.block 3, cells_at hs5.right.right.block 4⟩
      refine reg_run 15 (v') (w5) rfl rfl (by decide +kernel) rfl (exec_app27 rfl rfl rfl hr) (hS6) ?_; simp only [List.setIfInBounds_toArray, List.set_cons_succ, List.set_cons_zero]
      obtain ⟨ao', cp', rfl⟩ := ownAt_slice hs5
      (apply reg_take 16 rfl rfl (by decide +kernel) rfl); (rintro w' ⟨h1, h2, h3, h4, h5⟩; go_simp; rfl); exact hS6; simp only [List.setIfInBounds_toArray, List.set_cons_succ, List.set_cons_zero]
      refine reg_done (by decide +kernel) ?_
      have H6 := Lib.hid (And.intro ((hsm3.alloc (.cells #[.int .i64 id, .int .i64 src, .int .i64 ten, .int .i64 (cnt m : Int)] TSi)).trans hsm5) hs5)
      clear hS0 hS3 hS4 hS6 hA4 hA5 h3 hsm3 hsm5 hs5 hr hti hz0 hts hz2
      go_wp2
      refine ⟨⟨⟨k + 1, by rw [HLL.out.1]; omega, by rw [Int.natCast_add]; rfl, H6.out.1, ?_⟩⟩, by simp only [intOf]; omega⟩
      have htk : S.snaps.take (k + 1) = S.snaps.take k ++ [⟨id, ten, src, m⟩] := by rw [List.take_add_one, HX.out]; rfl
      rw [htk, List.flatMap_append]
      exact Sat.right (P := pts w3.heap.size (.cells #[.int .i64 id, .int .i64 src, .int .i64 ten, .int .i64 (cnt m : Int)] TSi (0, 0)) * pts B5 (.cells #[.int .i64 id, .int .i64 ten, .pointer q, .int .i64 (cnt m : Int), .int .i64 src] TSnap (0, 0))) (H6.out.2.perm (by show ownAt TSi 4 _ _ (_ ++ [.int .i64 id, .int .i64 src, .int .i64 ten, .int .i64 (cnt m : Int)]) * _ = _ * (ownAt TSi 4 _ _ (_ ++ [.int .i64 id, .int .i64 src, .int .i64 ten, .int .i64 (cnt m : Int)]) * _); ac_rfl))
    · have hke : k = S.snaps.length := by rw [HLL.out.1] at hk ⊢; omega
      have hltd : decide ((k : Int) < (ls.length : Int)) = false := decide_eq_false (by omega)
      clear hbw
      go_wp2
      go_ret
      subst hke
      rw [List.take_length] at H1
      exact ⟨_, rfl, H1.out⟩

end Go.Proofs.YtmgcgdkndkibgaaGreat

/- usage.Of: what the tenants use. -/
namespace Go.Proofs.YtmgcgdkndkibgaaGreat
open Go.RowKit Go.Vol Go.Sl

abbrev TUse : TypeId := 39
def useE (x : Int × Int) : List Value := [.int .i64 x.1, .int .i64 x.2]
def useL (f : Nat → Int × Int) : List Value := (List.range 16).flatMap fun t => useE (f t)
theorem useL_at (f : Nat → Int × Int) {t : Nat} (h : t < 16) : (useL f)[t * 2]? = some (.int .i64 (f t).1) ∧ (useL f)[t * 2 + 1]? = some (.int .i64 (f t).2) := by
  have hx : (List.range 16)[t]? = some t := by rw [List.getElem?_range h]
  have h0 := flat_at (enc := fun t => useE (f t)) (k := 2) (fun _ => rfl) (List.range 16) t t hx 0 _ rfl
  have h1 := flat_at (enc := fun t => useE (f t)) (k := 2) (fun _ => rfl) (List.range 16) t t hx 1 _ rfl
  rw [Nat.add_zero] at h0
  exact ⟨h0, h1⟩
def addV (f : Nat → Int × Int) (t : Nat) (n : Int) : Nat → Int × Int := fun i => if i = t then ((f i).1 + n, (f i).2) else f i
def addS (f : Nat → Int × Int) (t : Nat) (n : Int) : Nat → Int × Int := fun i => if i = t then ((f i).1, (f i).2 + n) else f i
theorem useL_len (f : Nat → Int × Int) : (useL f).length = 32 := rfl
theorem useL_addV (f : Nat → Int × Int) {t : Nat} (h : t < 16) (n : Int) : useL (addV f t n) = (useL f).set (t * 2) (.int .i64 ((f t).1 + n)) := by
  apply List.ext_getElem?
  intro i
  by_cases hi : i < 32
  · obtain ⟨q, r, hr, rfl⟩ : ∃ q r, r < 2 ∧ i = q * 2 + r := ⟨i / 2, i % 2, Nat.mod_lt _ (by decide), by omega⟩
    have hq : q < 16 := by omega
    obtain ⟨a0, a1⟩ := useL_at (addV f t n) hq
    obtain ⟨b0, b1⟩ := useL_at f hq
    by_cases hqt : q = t
    · subst hqt
      match r, hr with
      | 0, _ => rw [Nat.add_zero, a0, List.getElem?_set_self (by rw [useL_len]; omega)]; simp [addV]
      | 1, _ => rw [a1, List.getElem?_set_ne (by omega), b1]; simp [addV]
    · rw [List.getElem?_set_ne (by omega)]
      match r, hr with
      | 0, _ => rw [Nat.add_zero, a0, b0]; simp [addV, hqt]
      | 1, _ => rw [a1, b1]; simp [addV, hqt]
  · rw [List.getElem?_eq_none (by rw [useL_len]; omega), List.getElem?_eq_none (by rw [List.length_set, useL_len]; omega)]
theorem useL_addS (f : Nat → Int × Int) {t : Nat} (h : t < 16) (n : Int) : useL (addS f t n) = (useL f).set (t * 2 + 1) (.int .i64 ((f t).2 + n)) := by
  apply List.ext_getElem?
  intro i
  by_cases hi : i < 32
  · obtain ⟨q, r, hr, rfl⟩ : ∃ q r, r < 2 ∧ i = q * 2 + r := ⟨i / 2, i % 2, Nat.mod_lt _ (by decide), by omega⟩
    have hq : q < 16 := by omega
    obtain ⟨a0, a1⟩ := useL_at (addS f t n) hq
    obtain ⟨b0, b1⟩ := useL_at f hq
    by_cases hqt : q = t
    · subst hqt
      match r, hr with
      | 0, _ => rw [Nat.add_zero, a0, List.getElem?_set_ne (by omega), b0]; simp [addS]
      | 1, _ => rw [a1, List.getElem?_set_self (by rw [useL_len]; omega)]; simp [addS]
    · rw [List.getElem?_set_ne (by omega)]
      match r, hr with
      | 0, _ => rw [Nat.add_zero, a0, b0]; simp [addS, hqt]
      | 1, _ => rw [a1, b1]; simp [addS, hqt]
  · rw [List.getElem?_eq_none (by rw [useL_len]; omega), List.getElem?_eq_none (by rw [List.length_set, useL_len]; omega)]
def useA (f : Nat → Int × Int) : Array Value := (useL f).toArray
set_option maxRecDepth 20000 in
set_option maxHeartbeats 2000000 in
theorem add1_any (g : Nat) (f : Nat → Int × Int) (t : Nat) (n : Int) (X : HProp) (w : World) (ht : t < 16) (hb : 0 ≤ (f t).1 ∧ (f t).1 ≤ 100000000 ∧ 0 ≤ n ∧ n ≤ 100000000) (h : Sat w (pts g (.cells (useA f) TUse (0, 0)) * X)) :
    Calls Tryz.prog 36 #[.slice (some ⟨g, 0, none⟩) 16 16, .int .i64 (t : Int), .int .i64 n, .func (.func 37) #[] #[]] w fun e w' => e = .returned (.tuple #[]) ∧ Hid (Same w w' ∧ Sat w' (pts g (.cells (useA (addV f t n)) TUse (0, 0)) * X)) := by
  have h1 : decide ((t : Int) < 16) = true := decide_eq_true (by omega)
  go_enter Tryz.func36, Tryz.ntmps36
  obtain ⟨a0, a1⟩ := useL_at f ht
  have hc := cells_at h.block
  have hz := thawed_at h.block
  have c0 : w.cell? ⟨g, t * 2, none⟩ = some (.int .i64 (f t).1) := by rw [hc]; simpa [useA] using a0
  have f0 := hz (t * 2)
  have hw : IntKind.i64.wrap ((f t).1 + n) = (f t).1 + n := IntWalk.i64_in _ (by omega)
  have HS := Lib.hid h
  have HT := Lib.hid ht
  clear hc hz a0 a1 h
  go_wp2
  go_end0
  refine ⟨rfl, (Same.refl w).setCell _ _, ?_⟩
  have h2 := HS.out.setCell (i := t * 2) (.int .i64 ((f t).1 + n))
  have e : (useA f).setIfInBounds (t * 2) (.int .i64 ((f t).1 + n)) = useA (addV f t n) := by
    unfold useA
    rw [useL_addV f HT.out n, List.setIfInBounds_toArray]
  rw [e] at h2
  exact h2
set_option maxRecDepth 20000 in
set_option maxHeartbeats 2000000 in
theorem add2_any (g : Nat) (f : Nat → Int × Int) (t : Nat) (n : Int) (X : HProp) (w : World) (ht : t < 16) (hb : 0 ≤ (f t).2 ∧ (f t).2 ≤ 100000000 ∧ 0 ≤ n ∧ n ≤ 100000000) (h : Sat w (pts g (.cells (useA f) TUse (0, 0)) * X)) :
    Calls Tryz.prog 36 #[.slice (some ⟨g, 0, none⟩) 16 16, .int .i64 (t : Int), .int .i64 n, .func (.func 38) #[] #[]] w fun e w' => e = .returned (.tuple #[]) ∧ Hid (Same w w' ∧ Sat w' (pts g (.cells (useA (addS f t n)) TUse (0, 0)) * X)) := by
  have h1 : decide ((t : Int) < 16) = true := decide_eq_true (by omega)
  go_enter Tryz.func36, Tryz.ntmps36
  obtain ⟨a0, a1⟩ := useL_at f ht
  have hc := cells_at h.block
  have hz := thawed_at h.block
  have c0 : w.cell? ⟨g, t * 2 + 1, none⟩ = some (.int .i64 (f t).2) := by rw [hc]; simpa [useA] using a1
  have f0 := hz (t * 2 + 1)
  have hw : IntKind.i64.wrap ((f t).2 + n) = (f t).2 + n := IntWalk.i64_in _ (by omega)
  have HS := Lib.hid h
  have HT := Lib.hid ht
  clear hc hz a0 a1 h
  go_wp2
  go_end0
  refine ⟨rfl, (Same.refl w).setCell _ _, ?_⟩
  have h2 := HS.out.setCell (i := t * 2 + 1) (.int .i64 ((f t).2 + n))
  have e : (useA f).setIfInBounds (t * 2 + 1) (.int .i64 ((f t).2 + n)) = useA (addS f t n) := by
    unfold useA
    rw [useL_addS f HT.out n, List.setIfInBounds_toArray]
  rw [e] at h2
  exact h2
theorem sat_old {w W : World} {P Q : HProp} (h : Sat W (P * old w)) (hq : Sat w Q) : Sat W (P * Q) := by
  obtain ⟨_, ⟨a, b, ha, hb, hd, rfl⟩, hk⟩ := h
  obtain ⟨y, hy, hyk⟩ := hq
  have hb' : b = fun k => w.heap[k]? := hb
  refine ⟨un a y, ⟨a, y, ha, hy, fun k => ?_, rfl⟩, fun k o ho => ?_⟩
  · cases hyk' : y k with
    | none => exact .inr rfl
    | some o =>
      rcases hd k with h | h
      · exact .inl h
      · rw [hb', ] at h
        simp only [hyk k o hyk'] at h
        cases h
  · unfold un at ho
    cases hak : a k with
    | some o' =>
      rw [hak] at ho
      exact hk k o (by unfold un; rw [hak]; exact ho)
    | none =>
      rw [hak] at ho
      have hyo : y k = some o := ho
      exact hk k o (by unfold un; rw [hak, hb']; exact hyk k o hyo)
def sumU (L : List PartM) (t : Int) : Int := ((L.filter fun p => p.tenant == t).map fun p => (cnt p.m : Int)).sum
theorem sumU_take {L : List PartM} {k : Nat} {x : PartM} (h : L[k]? = some x) (t : Int) : sumU (L.take (k + 1)) t = sumU (L.take k) t + if x.tenant == t then (cnt x.m : Int) else 0 := by
  unfold sumU
  rw [List.take_add_one, h, List.filter_append, List.map_append, List.sum_append]
  cases hx : (x.tenant == t) <;> simp [hx]
theorem sumU_le (t : Int) : ∀ L : List PartM, 0 ≤ sumU L t ∧ sumU L t ≤ 4096 * (L.length : Int)
  | [] => by simp [sumU]
  | x :: L => by
    have ih := sumU_le t L
    have hc := cnt_le x.m
    unfold sumU at *
    rw [List.filter_cons]
    split
    · rw [List.map_cons, List.sum_cons, List.length_cons]; omega
    · rw [List.length_cons]; omega
def fV (S : SpaceM) (k : Nat) : Nat → Int × Int := fun t => (sumU (S.vols.take k) (t : Int), 0)
def fS (S : SpaceM) (k : Nat) : Nat → Int × Int := fun t => (sumU S.vols (t : Int), sumU (S.snaps.take k) (t : Int))
def useOf (S : SpaceM) : Nat → Int × Int := fun t => (sumU S.vols (t : Int), sumU S.snaps (t : Int))
theorem info_use : (Tryz.prog.info? TUse).map (fun i => (i.zero, i.size, i.bytes)) = some (some (.agg #[.int .i64 0, .int .i64 0]), 2, 16) := by kernel_rfl
theorem make_use (w : World) : (Instr.makeSlice 30 (.int .i64 16) (.int .i64 16)).run Tryz.prog w = .ok (.slice (some ⟨w.heap.size, 0, none⟩) 16 16) (w.alloc (.cells (useA fun _ => (0, 0)) TUse)) := by
  obtain ⟨ti, hti, hz0, hts, hz2⟩ := info_parts info_use
  have h := run_makeSlice (w := w) 30 TUse ti _ Tryz.underlying30 hti hz0 .i64 .i64 16 16 (by decide) (by decide) (by rw [hts]; decide) (by rw [hz2]; decide) (by decide)
  rw [hts] at h
  have e : madeCells (Value.agg #[Value.int IntKind.i64 0, Value.int IntKind.i64 0]).cells (Int.toNat 16 * 2) = useA fun _ => (0, 0) := by kernel_rfl
  rw [e] at h
  exact h
theorem addV_step {S : SpaceM} {k t : Nat} {x : PartM} (hx : S.vols[k]? = some x) (ht : x.tenant = (t : Int)) : addV (fV S k) t (cnt x.m : Int) = fV S (k + 1) := by
  funext i
  unfold addV fV
  rw [sumU_take hx, ht]
  by_cases hi : i = t
  · subst hi; simp
  · rw [if_neg hi, if_neg (by simp; omega)]; simp
theorem addS_step {S : SpaceM} {k t : Nat} {x : PartM} (hx : S.snaps[k]? = some x) (ht : x.tenant = (t : Int)) : addS (fS S k) t (cnt x.m : Int) = fS S (k + 1) := by
  funext i
  unfold addS fS
  rw [sumU_take hx, ht]
  by_cases hi : i = t
  · subst hi; simp
  · rw [if_neg hi, if_neg (by simp; omega)]; simp
structure OfSt (w : World) (T : TypeId) (n : Nat) (V : Value) (L : List PartM) (enc : PartM → List Value) (g : Nat) (f : Nat → Nat → Int × Int) (i : Value) (wr : World) : Prop where
  st : ∃ k : Nat, k ≤ L.length ∧ i = .int .i64 (k : Int) ∧ Hid (Same w wr ∧ Sat wr (ownAt T n V L.length (L.flatMap enc) * (pts g (.cells (useA (f k)) TUse (0, 0)) * old w)))
set_option maxRecDepth 20000 in
set_option maxHeartbeats 4000000 in
theorem of_any (p : Nat) (S : SpaceM) (w : World) (hS : SpaceAt TNode TSp w p S) (hwf : S.WF) :
    Calls Tryz.prog 11 #[.pointer (some ⟨p, 0, none⟩)] w fun e w' => ∃ g, e = .returned (.slice (some ⟨g, 0, none⟩) 16 16) ∧ Hid (Same w w' ∧ Sat w' (pts g (.cells (useA (useOf S)) TUse (0, 0)) * old w)) := by
  have HV := Lib.hid (fun (W : World) (hb : Below w.heap.size w W) => volsO_any p S W (hS.below hb) hwf)
  have HN := Lib.hid (fun (W : World) (hb : Below w.heap.size w W) => snapsO_any p S W (hS.below hb) hwf)
  have hvl := hwf.vlen
  have hsl := hwf.slen
  have HW := Lib.hid hwf
  clear hS hwf
  go_enter Tryz.func11, Tryz.ntmps11
  have hmk := make_use w
  go_upto_region 2 with (fail)
  have H0 := Lib.hid (show Same w (w.alloc (.cells (useA fun _ => (0, 0)) TUse)) ∧ Sat (w.alloc (.cells (useA fun _ => (0, 0)) TUse)) (pts w.heap.size (.cells (useA (fV S 0)) TUse (0, 0)) * old w) from ⟨(Same.refl w).alloc _, (Sat.old w).alloc _⟩)
  clear hmk
  generalize w.alloc (.cells (useA fun _ => (0, 0)) TUse) = w1 at H0 ⊢
  generalize w.heap.size = g at H0 ⊢
  go_wp2_with (go_at_call 29; refine (HV.out _ (H0.out.1.below_of H0.out.2)).mono ?_; rintro e w2 ⟨v, rfl, h2⟩; have H1 := Lib.hid (And.intro (H0.out.1.trans h2.out.1) (sat_old h2.out.2 H0.out.2)); obtain ⟨ao, cap, rfl⟩ := ownAt_slice h2.out.2; clear h2)
  go_loopw [12] (fun i wr => OfSt w TVi 3 (.slice ao S.vols.length cap) S.vols viE g (fV S) i wr) (fun i _ => S.vols.length - (intOf i).toNat)
  case atStart => exact ⟨⟨0, Nat.zero_le _, rfl, H1.out⟩⟩
  case round =>
    obtain ⟨k, hk, rfl, HX⟩ := hrel.st
    clear hrel H1 H0 HV
    by_cases hlt : k < S.vols.length
    · have hltd : decide ((k : Int) < (S.vols.length : Int)) = true := decide_eq_true (by omega)
      have hki : (k : Int) ≤ 64 := by omega
      obtain ⟨x, hx⟩ : ∃ x, S.vols[k]? = some x := ⟨_, List.getElem?_eq_getElem hlt⟩
      obtain ⟨b, rfl, hg, e0, e1, e2⟩ := vi_cells (RowsAt.own HX.out.2 (by omega)) hx
      obtain ⟨t0, t1⟩ := (HW.out.vp x (List.mem_of_getElem? hx)).ten
      obtain ⟨t, ht⟩ := Int.eq_ofNat_of_zero_le t0
      have HST := Lib.hid (addV_step hx ht)
      have hsu := sumU_le (t : Int) (S.vols.take k)
      rw [List.length_take] at hsu
      have hcn := cnt_le x.m
      have HA := Lib.hid (fun (W : World) (h : Sat W (pts g (.cells (useA (fV S k)) TUse (0, 0)) * (ownAt TVi 3 (.slice (some ⟨b, 0, none⟩) S.vols.length cap) S.vols.length (S.vols.flatMap viE) * old w))) => add1_any g (fV S k) t (cnt x.m : Int) _ W (by omega) ⟨hsu.1, by show sumU (S.vols.take k) (t : Int) ≤ _; omega, by omega, by omega⟩ h)
      have hwk : IntKind.i64.wrap ((k : Int) + 1) = (k : Int) + 1 := IntWalk.i64_in _ (by omega)
      rw [ht] at e1
      clear hx hsu t0 t1 ht
      go_wp2_with (go_at_call 36; refine (HA.out _ ((HX.out.2.allocKeep _).perm (show _ = pts g (.cells (useA (fV S k)) TUse (0, 0)) * (ownAt TVi 3 (.slice (some ⟨b, 0, none⟩) S.vols.length cap) S.vols.length (S.vols.flatMap viE) * old w) from by ac_rfl))).mono ?_; rintro e w5 ⟨rfl, h5⟩; rw [HST.out] at h5; have HY := Lib.hid (And.intro ((HX.out.1.alloc _).trans h5.out.1) (h5.out.2.perm (show _ = ownAt TVi 3 (.slice (some ⟨b, 0, none⟩) S.vols.length cap) S.vols.length (S.vols.flatMap viE) * (pts g (.cells (useA (fV S (k + 1))) TUse (0, 0)) * old w) from by ac_rfl))); clear h5)
      go_roundw
      case rel => exact ⟨⟨k + 1, hlt, rfl, HY.out⟩⟩
      case measure => simp only [intOf]; omega
    · obtain rfl : k = S.vols.length := by omega
      have hltd : decide ((S.vols.length : Int) < (S.vols.length : Int)) = false := decide_eq_false (by omega)
      have hnlt : ¬ (S.vols.length : Int) < (S.vols.length : Int) := by omega
      have H0 := Lib.hid (show Same w wr ∧ Sat wr (pts g (.cells (useA (fS S 0)) TUse (0, 0)) * old w) from ⟨HX.out.1, by
        have h := HX.out.2.right
        rw [show fV S S.vols.length = fS S 0 from by funext t; unfold fV fS; rw [List.take_length]; rfl] at h
        exact h⟩)
      clear HX
      go_wp2_with (go_at_call 30; refine (HN.out _ (H0.out.1.below_of H0.out.2)).mono ?_; rintro e w2' ⟨v2, rfl, h2⟩; have H1 := Lib.hid (And.intro (H0.out.1.trans h2.out.1) (sat_old h2.out.2 H0.out.2)); obtain ⟨ao2, cap2, rfl⟩ := ownAt_slice h2.out.2; clear h2)
      go_loopw [26] (fun i wr => OfSt w TSi 4 (.slice ao2 S.snaps.length cap2) S.snaps siE g (fS S) i wr) (fun i _ => S.snaps.length - (intOf i).toNat)
      case atStart => exact ⟨⟨0, Nat.zero_le _, rfl, H1.out⟩⟩
      case round =>
        obtain ⟨k, hk, rfl, HX⟩ := hrel.st
        clear hrel H1 H0 HN
        by_cases hlt : k < S.snaps.length
        · have hltd : decide ((k : Int) < (S.snaps.length : Int)) = true := decide_eq_true (by omega)
          have hki : (k : Int) ≤ 256 := by omega
          obtain ⟨x, hx⟩ : ∃ x, S.snaps[k]? = some x := ⟨_, List.getElem?_eq_getElem hlt⟩
          obtain ⟨b, rfl, hg, e0, e1, e2, e3⟩ := si_cells (RowsAt.own HX.out.2 (by omega)) hx
          obtain ⟨t0, t1⟩ := (HW.out.sp x (List.mem_of_getElem? hx)).ten
          obtain ⟨t, ht⟩ := Int.eq_ofNat_of_zero_le t0
          have HST := Lib.hid (addS_step hx ht)
          have hsu := sumU_le (t : Int) (S.snaps.take k)
          rw [List.length_take] at hsu
          have hcn := cnt_le x.m
          have HA := Lib.hid (fun (W : World) (h : Sat W (pts g (.cells (useA (fS S k)) TUse (0, 0)) * (ownAt TSi 4 (.slice (some ⟨b, 0, none⟩) S.snaps.length cap2) S.snaps.length (S.snaps.flatMap siE) * old w))) => add2_any g (fS S k) t (cnt x.m : Int) _ W (by omega) ⟨hsu.1, by show sumU (S.snaps.take k) (t : Int) ≤ _; omega, by omega, by omega⟩ h)
          have hwk : IntKind.i64.wrap ((k : Int) + 1) = (k : Int) + 1 := IntWalk.i64_in _ (by omega)
          rw [ht] at e2
          clear hx hsu t0 t1 ht
          go_wp2_with (go_at_call 36; refine (HA.out _ ((HX.out.2.allocKeep _).perm (show _ = pts g (.cells (useA (fS S k)) TUse (0, 0)) * (ownAt TSi 4 (.slice (some ⟨b, 0, none⟩) S.snaps.length cap2) S.snaps.length (S.snaps.flatMap siE) * old w) from by ac_rfl))).mono ?_; rintro e w5 ⟨rfl, h5⟩; rw [HST.out] at h5; have HY := Lib.hid (And.intro ((HX.out.1.alloc _).trans h5.out.1) (h5.out.2.perm (show _ = ownAt TSi 4 (.slice (some ⟨b, 0, none⟩) S.snaps.length cap2) S.snaps.length (S.snaps.flatMap siE) * (pts g (.cells (useA (fS S (k + 1))) TUse (0, 0)) * old w) from by ac_rfl))); clear h5)
          go_roundw
          case rel => exact ⟨⟨k + 1, hlt, rfl, HY.out⟩⟩
          case measure => simp only [intOf]; omega
        · obtain rfl : k = S.snaps.length := by omega
          have hltd2 : decide ((S.snaps.length : Int) < (S.snaps.length : Int)) = false := decide_eq_false (by omega)
          have hnlt2 : ¬ (S.snaps.length : Int) < (S.snaps.length : Int) := by omega
          have H0 := Lib.hid (show Same w wr ∧ Sat wr (pts g (.cells (useA (useOf S)) TUse (0, 0)) * old w) from ⟨HX.out.1, by
            have h := HX.out.2.right
            rw [show fS S S.snaps.length = useOf S from by funext t; unfold fS useOf; rw [List.take_length]] at h
            exact h⟩)
          clear HX
          go_wp2
          go_ret
          exact ⟨g, rfl, H0.out⟩
end Go.Proofs.YtmgcgdkndkibgaaGreat

/- usage.Blocks: the blocks that each tenant uses, mapped and kept. -/
namespace Go.Proofs.YtmgcgdkndkibgaaGreat
open Go.RowKit Go.Vol Go.Sl

theorem info_i64 : (Tryz.prog.info? 3).map (fun i => (i.zero, i.size, i.bytes)) = some (some (.int .i64 0), 1, 8) := by kernel_rfl
def blkE (f : Nat → Int × Int) (t : Nat) : Value := .int .i64 ((f t).1 + (f t).2)
def blkL (f : Nat → Int × Int) : List Value := (List.range 16).map (blkE f)
structure BlSt (w : World) (g : Nat) (f : Nat → Int × Int) (v i : Value) (wr : World) : Prop where
  st : ∃ k : Nat, k ≤ 16 ∧ i = .int .i64 (k : Int) ∧ Hid (Same w wr ∧ Sat wr (ownAt 3 1 v k ((List.range k).map (blkE f)) * (pts g (.cells (useA f) TUse (0, 0)) * old w)))
theorem use_bound (S : SpaceM) (hwf : S.WF) (t : Nat) : 0 ≤ (useOf S t).1 ∧ (useOf S t).1 ≤ 100000000 ∧ 0 ≤ (useOf S t).2 ∧ (useOf S t).2 ≤ 100000000 := by
  have h1 := sumU_le (t : Int) S.vols
  have h2 := sumU_le (t : Int) S.snaps
  have h3 := hwf.vlen
  have h4 := hwf.slen
  unfold useOf
  simp only
  omega
set_option maxRecDepth 20000 in
set_option maxHeartbeats 4000000 in
theorem blocks_any (p : Nat) (S : SpaceM) (w : World) (hS : SpaceAt TNode TSp w p S) (hwf : S.WF) :
    Calls Tryz.prog 12 #[.pointer (some ⟨p, 0, none⟩)] w fun e w' => ∃ v, e = .returned v ∧ Hid (Same w w' ∧ Sat w' (ownAt 3 1 v 16 (blkL (useOf S)) * old w)) := by
  have HO := Lib.hid (of_any p S w hS hwf)
  have HB := Lib.hid (use_bound S hwf)
  clear hS hwf
  go_enter Tryz.func12, Tryz.ntmps12
  go_wp2_with (go_at_call 11; refine HO.out.mono ?_; rintro e w1 ⟨g, rfl, h2⟩; have H1 := Lib.hid h2.out; clear h2)
  clear HO
  obtain ⟨f, hf⟩ : ∃ f, Hid (f = useOf S) := ⟨_, Lib.hid rfl⟩
  rw [← hf.out] at H1
  have HB := Lib.hid (show ∀ t : Nat, 0 ≤ (f t).1 ∧ (f t).1 ≤ 100000000 ∧ 0 ≤ (f t).2 ∧ (f t).2 ≤ 100000000 from by rw [hf.out]; exact HB.out)
  go_loopw [3, 9] (fun v i wr => BlSt w g f v i wr) (fun _ i _ => 16 - (intOf i).toNat)
  case atStart => exact ⟨⟨0, Nat.zero_le _, rfl, ⟨H1.out.1, ownAt_nil.2 H1.out.2⟩⟩⟩
  case round =>
    obtain ⟨k, hk, rfl, HX⟩ := hrel.st
    clear hrel H1
    obtain ⟨ao, cap, rfl⟩ := ownAt_slice HX.out.2
    by_cases hlt : k < 16
    · have hltd : decide ((k : Int) < 16) = true := decide_eq_true (by omega)
      have hki : (k : Int) ≤ 16 := by omega
      have hp := HX.out.2.right.block
      obtain ⟨a0, a1⟩ := useL_at f hlt
      have c0 : wr.cell? ⟨g, k * 2, none⟩ = some (.int .i64 (f k).1) := by rw [cells_at hp]; simpa [useA] using a0
      have c1 : wr.cell? ⟨g, k * 2 + 1, none⟩ = some (.int .i64 (f k).2) := by rw [cells_at hp]; simpa [useA] using a1
      have hB := HB.out k
      have hw : IntKind.i64.wrap ((f k).1 + (f k).2) = (f k).1 + (f k).2 := IntWalk.i64_in _ (by omega)
      have hwk : IntKind.i64.wrap ((k : Int) + 1) = (k : Int) + 1 := IntWalk.i64_in _ (by omega)
      have hB2 := Lib.hid hB
      obtain ⟨ti, hti, hz0, hts, hz2⟩ := info_parts info_i64
      clear hp a0 a1 hB
      go_wp2_with (at_builtin; refine wpList_append_ownAt (F := pts g (.cells (useA f) TUse (0, 0)) * old w) rfl _ _ 32 3 rfl ti _ Tryz.underlying32 hti hz0 hts hz2 rfl ((HX.out.2.allocKeep _).allocKeep _) [blkE f k] rfl rfl rfl ?_ (by simp [Value.oneCell', blkE]) (by unfold maxLen; omega) (by omega) ?_)
      · intro j u hu
        match j, hu with
        | 0, hu => rw [Addr.add_mid, show wr.heap.size + 1 = (wr.alloc (.cells #[.int .i64 (f k).1, .int .i64 (f k).2] TUse)).heap.size from (World.size_alloc _ _).symm, cells_at (heap_alloc_new _ _)]; simpa [blkE] using hu
      intro v' w6 h6
      have HY := Lib.hid (And.intro (((HX.out.1.alloc _).alloc _).trans h6.out.1) h6.out.2)
      obtain ⟨ao', cap', rfl⟩ := ownAt_slice h6.out.2
      clear h6 c0 c1 HX hti hz0 hts hz2
      go_wp2
      go_roundw
      case rel => exact ⟨⟨k + 1, hlt, rfl, HY.out.1, by rw [List.range_succ, List.map_append]; exact HY.out.2⟩⟩
      case measure => simp only [intOf]; omega
    · obtain rfl : k = 16 := by omega
      have hltd : decide (((16 : Nat) : Int) < 16) = false := decide_eq_false (by omega)
      have hnlt : ¬ ((16 : Nat) : Int) < 16 := by omega
      have HF := Lib.hid (show Same w wr ∧ Sat wr (ownAt 3 1 (.slice ao 16 cap) 16 (blkL f) * old w) from ⟨HX.out.1, Sat.right (P := pts g (.cells (useA f) TUse (0, 0))) (HX.out.2.perm (show _ = pts g (.cells (useA f) TUse (0, 0)) * (ownAt 3 1 (.slice ao 16 cap) 16 (blkL f) * old w) from by ac_rfl))⟩)
      clear HX
      go_wp2
      go_ret
      rw [hf.out] at HF
      exact ⟨.slice ao 16 cap, rfl, HF⟩
end Go.Proofs.YtmgcgdkndkibgaaGreat
