/- solventref16's Lose, Misdirect, Write. Printed by qb.py. -/
import Derived.Test.YtdeblpnkpefbcaaQa
namespace Go.Proofs.Ytdeblpnkpefbcaa
open Go.RowKit Go.Sl Go.ChangeMaps

set_option maxRecDepth 20000 in
set_option maxHeartbeats 2000000 in
theorem rlose_any (p : Nat) (D : DiskM) (F : HProp) (i : Int) (w : World) (hS : Sat w (refD RT p D * F)) :
    Calls Try.prog 39 #[.pointer (some ⟨p, 0, none⟩), .int .i64 i] w fun e w' => e = .returned (.int .i64 (D.lose i).2) ∧ Hid (Same w w' ∧ Sat w' (refD RT p (D.lose i).1 * F)) := by
  obtain ⟨v, L, ⟨hwf, hr⟩, hs⟩ := refD_iff.1 hS
  have c0 : w.cell? ⟨p, 0, none⟩ = some v := cells_at hs.block 0
  obtain ⟨ao, cap, rfl⟩ := ownAt_slice hs.right
  have HI := Lib.hid (fun i => ris_any p (.slice ao L.length cap) L.length i w c0 ⟨ao, cap, rfl⟩)
  have hin := ref_n hr
  obtain ⟨G, hG⟩ : ∃ G, Hid (D.lose i = G) := ⟨_, Lib.hid rfl⟩
  rw [hG.out]
  obtain ⟨n, hn⟩ : ∃ n, L.length = n := ⟨_, rfl⟩
  rw [hn] at HI hin c0
  by_cases hi : 0 ≤ i ∧ i < (n : Int)
  · obtain ⟨k, rfl⟩ := Int.eq_ofNat_of_zero_le hi.1
    have hk : k < L.length := by omega
    obtain ⟨x, hx⟩ : ∃ x, L[k]? = some x := ⟨_, List.getElem?_eq_getElem hk⟩
    obtain ⟨g, rfl, -⟩ := sec_cells hs.right hx
    have ho : Sat w (refO p g L.length cap L F) := hs
    rw [hn] at ho
    obtain ⟨-, e0, e1, e2, e3, ef⟩ := refO_cells ho hx
    have f3 := ef (k * 4 + 3)
    have hki : (k : Int) < (n : Int) := hi.2
    have hk0 : (0 : Int) ≤ (k : Int) := hi.1
    have hh : D.has (k : Int) = true := by rw [hin]; exact in_true hi
    obtain rfl : ({ D with armed := fupd D.armed k (some (-1)) }, 0) = G := by rw [← hG.out]; unfold DiskM.lose; rw [if_pos hh]; rfl
    have hwf' := hwf.lose (k : Int)
    unfold DiskM.lose at hwf'
    rw [if_pos hh] at hwf'
    have HF := Lib.hid (And.intro ((Same.refl w).setCell ⟨g, k * 4 + 3, none⟩ (.int .i64 (-1))) (refO_refD hwf' (hr.arm hx (some (-1))) (refO_arm ho hx (-1))))
    have hb := in_true hi
    clear hG hs hS hr hwf hwf' hi hin ho hk hn ef hh
    go_enter Try.func39, Try.ntmps39
    go_wp2_with (go_at_call 53; refine (HI.out _).mono ?_; rintro e w' ⟨rfl, rfl⟩; rw [hb])
    go_ret
    exact ⟨rfl, HF.out⟩
  · have hb := in_false hi
    have hh : D.has i = false := by rw [hin]; exact hb
    obtain rfl : (D, 1) = G := by rw [← hG.out]; unfold DiskM.lose; rw [hh]; rfl
    have HF := Lib.hid (And.intro (Same.refl w) hS)
    clear hG hs hS hr hwf hi hin hn hh
    go_enter Try.func39, Try.ntmps39
    go_wp2_with (go_at_call 53; refine (HI.out _).mono ?_; rintro e w' ⟨rfl, rfl⟩; rw [hb])
    go_ret
    exact ⟨rfl, HF.out⟩
set_option maxRecDepth 20000 in
set_option maxHeartbeats 2000000 in
theorem rmisdirect_any (p : Nat) (D : DiskM) (F : HProp) (i to : Int) (w : World) (hS : Sat w (refD RT p D * F)) :
    Calls Try.prog 40 #[.pointer (some ⟨p, 0, none⟩), .int .i64 i, .int .i64 to] w fun e w' => e = .returned (.int .i64 (D.misdirect i to).2) ∧ Hid (Same w w' ∧ Sat w' (refD RT p (D.misdirect i to).1 * F)) := by
  obtain ⟨v, L, ⟨hwf, hr⟩, hs⟩ := refD_iff.1 hS
  have c0 : w.cell? ⟨p, 0, none⟩ = some v := cells_at hs.block 0
  obtain ⟨ao, cap, rfl⟩ := ownAt_slice hs.right
  have HI := Lib.hid (fun i => ris_any p (.slice ao L.length cap) L.length i w c0 ⟨ao, cap, rfl⟩)
  have hin := ref_n hr
  obtain ⟨G, hG⟩ : ∃ G, Hid (D.misdirect i to = G) := ⟨_, Lib.hid rfl⟩
  rw [hG.out]
  obtain ⟨n, hn⟩ : ∃ n, L.length = n := ⟨_, rfl⟩
  rw [hn] at HI hin c0
  by_cases hi : 0 ≤ i ∧ i < (n : Int)
  case neg =>
    have hb := in_false hi
    have hh : D.has i = false := by rw [hin]; exact hb
    obtain rfl : (D, 1) = G := by rw [← hG.out]; unfold DiskM.misdirect; rw [hh]; rfl
    have HF := Lib.hid (And.intro (Same.refl w) hS)
    clear hG hs hS hr hwf hi hin hn hh
    go_enter Try.func40, Try.ntmps40
    go_wp2_with (go_at_call 53; refine (HI.out _).mono ?_; rintro e w' ⟨rfl, rfl⟩; rw [hb])
    go_ret
    exact ⟨rfl, HF.out⟩
  by_cases ht : 0 ≤ to ∧ to < (n : Int)
  case neg =>
    have hb := in_true hi
    have hb2 := in_false ht
    have hh : D.has to = false := by rw [hin]; exact hb2
    obtain rfl : (D, 1) = G := by rw [← hG.out]; unfold DiskM.misdirect; rw [hh, if_neg (by simp)]
    have HF := Lib.hid (And.intro (Same.refl w) hS)
    clear hG hs hS hr hwf hi ht hin hn hh
    go_enter Try.func40, Try.ntmps40
    go_wp2_with (go_at_call 53; refine (HI.out _).mono ?_; rintro e w' ⟨rfl, rfl⟩; first | rw [hb] | rw [hb2])
    go_ret
    exact ⟨rfl, HF.out⟩
  obtain ⟨k, rfl⟩ := Int.eq_ofNat_of_zero_le hi.1
  have hk : k < L.length := by omega
  obtain ⟨x, hx⟩ : ∃ x, L[k]? = some x := ⟨_, List.getElem?_eq_getElem hk⟩
  obtain ⟨g, rfl, -⟩ := sec_cells hs.right hx
  have ho : Sat w (refO p g L.length cap L F) := hs
  rw [hn] at ho
  obtain ⟨-, e0, e1, e2, e3, ef⟩ := refO_cells ho hx
  have f3 := ef (k * 4 + 3)
  have hki : (k : Int) < (n : Int) := hi.2
  have hk0 : (0 : Int) ≤ (k : Int) := hi.1
  have hh : D.has (k : Int) = true := by rw [hin]; exact in_true hi
  have hh2 : D.has to = true := by rw [hin]; exact in_true ht
  obtain rfl : ({ D with armed := fupd D.armed k (some to) }, 0) = G := by rw [← hG.out]; unfold DiskM.misdirect; rw [if_pos ⟨hh, hh2⟩]; rfl
  have hwf' := hwf.misdirect (k : Int) to
  unfold DiskM.misdirect at hwf'
  rw [if_pos ⟨hh, hh2⟩] at hwf'
  have HF := Lib.hid (And.intro ((Same.refl w).setCell ⟨g, k * 4 + 3, none⟩ (.int .i64 to)) (refO_refD hwf' (hr.arm hx (some to)) (refO_arm ho hx to)))
  have hb := in_true hi
  have hb2 := in_true ht
  clear hG hs hS hr hwf hwf' hi ht hin ho hk hn ef hh hh2
  go_enter Try.func40, Try.ntmps40
  go_wp2_with (go_at_call 53; refine (HI.out _).mono ?_; rintro e w' ⟨rfl, rfl⟩; first | rw [hb] | rw [hb2])
  go_ret
  exact ⟨rfl, HF.out⟩
set_option maxRecDepth 20000 in
set_option maxHeartbeats 4000000 in
theorem rwrite_any (p : Nat) (D : DiskM) (F : HProp) (i : Int) (s : List UInt8) (w : World) (hS : Sat w (refD RT p D * F)) :
    Calls Try.prog 35 #[.pointer (some ⟨p, 0, none⟩), .int .i64 i, .string (strW s)] w fun e w' => e = .returned (.int .i64 (D.write i s).2) ∧ Hid (Same w w' ∧ Sat w' (refD RT p (D.write i s).1 * F)) := by
  obtain ⟨v, L, ⟨hwf, hr⟩, hs⟩ := refD_iff.1 hS
  have c0 : w.cell? ⟨p, 0, none⟩ = some v := cells_at hs.block 0
  obtain ⟨ao, cap, rfl⟩ := ownAt_slice hs.right
  have HI := Lib.hid (fun i => ris_any p (.slice ao L.length cap) L.length i w c0 ⟨ao, cap, rfl⟩)
  have hin := ref_n hr
  obtain ⟨G, hG⟩ : ∃ G, Hid (D.write i s = G) := ⟨_, Lib.hid rfl⟩
  rw [hG.out]
  obtain ⟨n, hn⟩ : ∃ n, L.length = n := ⟨_, rfl⟩
  rw [hn] at HI hin c0
  have hcn := fun (W : World) (P : HProp) (h : Sat W P) => conv_new s W h
  have hsz : (strW s).size = s.length := by show s.toArray.size = _; simp
  obtain ⟨B, hB⟩ : ∃ B, strW s = B := ⟨_, rfl⟩
  rw [hB] at hcn hsz ⊢
  have HCN := Lib.hid hcn
  clear hcn hB
  by_cases hi : 0 ≤ i ∧ i < (n : Int)
  case neg =>
    have hb := in_false hi
    have hh : D.has i = false := by rw [hin]; exact hb
    obtain rfl : (D, 1) = G := by rw [← hG.out]; unfold DiskM.write; rw [hh]; rfl
    have HF := Lib.hid (And.intro (Same.refl w) hS)
    clear hG hs hS hr hwf hi hin hn hh hsz
    go_enter Try.func35, Try.ntmps35
    go_wp2_with (go_at_call 53; refine (HI.out _).mono ?_; rintro e w' ⟨rfl, rfl⟩; rw [hb])
    go_ret
    exact ⟨rfl, HF.out⟩
  have hb := in_true hi
  by_cases hl : s.length = 64
  case neg =>
    obtain rfl : (D, 1) = G := by rw [← hG.out]; unfold DiskM.write; rw [if_neg (fun h => hl h.2)]
    have HF := Lib.hid (And.intro (Same.refl w) hS)
    have hne : ((B.size : Int) != 64) = true := by rw [hsz]; simp; omega
    clear hG hs hS hr hwf hi hin hn hsz hl
    go_enter Try.func35, Try.ntmps35
    go_wp2_with (go_at_call 53; refine (HI.out _).mono ?_; rintro e w' ⟨rfl, rfl⟩; rw [hb])
    go_ret
    exact ⟨rfl, HF.out⟩
  obtain ⟨k, rfl⟩ := Int.eq_ofNat_of_zero_le hi.1
  have hk : k < L.length := by omega
  obtain ⟨x, hx⟩ : ∃ x, L[k]? = some x := ⟨_, List.getElem?_eq_getElem hk⟩
  obtain ⟨g, rfl, -⟩ := sec_cells hs.right hx
  have ho : Sat w (refO p g L.length cap L F) := hs
  rw [hn] at ho
  obtain ⟨-, e0, e1, e2, e3, ef⟩ := refO_cells ho hx
  have f3 := ef (k * 4 + 3)
  have hki : (k : Int) < (n : Int) := hi.2
  have hk0 : (0 : Int) ≤ (k : Int) := hi.1
  have hh : D.has (k : Int) = true := by rw [hin]; exact hb
  have hs64 : B.size = 64 := by rw [hsz, hl]
  rw [hl] at HCN
  have hwf' := hwf.write (k : Int) s
  have hGv : G = (D.put k s, 0) := by rw [← hG.out]; unfold DiskM.write; rw [if_pos ⟨hh, hl⟩]; simp
  have hwr : D.write (k : Int) s = (D.put k s, 0) := by rw [hG.out, hGv]
  rw [hwr] at hwf'
  subst hGv
  have hfx := hr.fault k x hx
  have HO := Lib.hid ho
  have HRF := Lib.hid hr
  have HX := Lib.hid hx
  have HW := Lib.hid hwf'
  have HN := Lib.hid hn
  cases ha : D.armed k with
  | none =>
    have hf : x.1.fault = -2 := by rw [hfx]; unfold faultM; rw [ha]
    rw [hf] at e3
    have hp : D.put k s = { D with cache := fupd D.cache k (some s) } := by unfold DiskM.put; rw [ha]
    rw [hp] at HW ⊢
    have HP := Lib.hid (hr.put hx s)
    clear hG hs hS hr hwf hwf' hi hin ho hk hn ef hh hl hwr hfx hx ha hp hf hsz f3 e0 e1 e2
    go_enter Try.func35, Try.ntmps35
    go_upto_region 9 with (go_at_call 53; refine (HI.out _).mono ?_; rintro e w' ⟨rfl, rfl⟩; rw [hb])
    obtain ⟨W2, cap2, hcv, hsm2, hs2⟩ := HCN.out _ _ HO.out
    have ho2 : Sat W2 (refO p g n cap L (rowB TU8 (.slice (some ⟨w.heap.size, 0, none⟩) 64 cap2) s * F)) := hs2.perm (show _ = refO p g n cap L (rowB TU8 (.slice (some ⟨w.heap.size, 0, none⟩) 64 cap2) s * F) from by unfold refO; ac_rfl)
    obtain ⟨d0, -, g1, -, -, gf⟩ := refO_cells ho2 HX.out
    have f1 := gf (k * 4 + 1)
    have hst := refO_store ho2 HX.out (cacd x.1 s, x.2.1, .slice (some ⟨w.heap.size, 0, none⟩) 64 cap2) 1 (.slice (some ⟨w.heap.size, 0, none⟩) 64 cap2) (by omega) rfl (G := rowB TU8 x.2.2 x.1.cac * F) (secB_cac x s _ F)
    have H2 := Lib.hid (And.intro ((Same.refl w).trans hsm2) hst)
    clear hs2 hst ho2 gf hsm2
    go_upto_region 10 with (((with_reducible (refine wpList_run ?_ (exec_convert ?_ ?_ hcv) ?_)); rfl; rfl; rfl))
    clear hcv d0 g1 f1 c0
    replace H2 := Lib.hid (And.intro (H2.out.1.setCell ⟨g, k * 4 + 1, none⟩ (.slice (some ⟨w.heap.size, 0, none⟩) 64 cap2)) H2.out.2)
    generalize hW3 : W2.setCell ⟨g, k * 4 + 1, none⟩ _ = W3 at H2 ⊢
    have hkl : k < L.length := (List.getElem?_eq_some_iff.1 HX.out).1
    have hx3 : (L.set k (cacd x.1 s, x.2.1, .slice (some ⟨w.heap.size, 0, none⟩) 64 cap2))[k]? = some (cacd x.1 s, x.2.1, .slice (some ⟨w.heap.size, 0, none⟩) 64 cap2) := by rw [List.getElem?_set_self hkl]
    obtain ⟨c0, -, -, g2, -, gf⟩ := refO_cells H2.out.2 hx3
    have f2 := gf (k * 4 + 2)
    have hst := refO_store H2.out.2 hx3 (x.1.put s, x.2.1, .slice (some ⟨w.heap.size, 0, none⟩) 64 cap2) 2 (.bool true) (by omega) rfl rfl
    rw [List.set_set] at hst
    have HF := Lib.hid (And.intro (H2.out.1.setCell ⟨g, k * 4 + 2, none⟩ (.bool true)) (refO_refD HW.out (HP.out _) (refO_drop hst)))
    clear hst hx3 gf hkl H2 hW3
    go_wp2
    go_ret
    exact ⟨rfl, HF.out⟩
  | some jj =>
    have hf : x.1.fault = jj := by rw [hfx]; unfold faultM; rw [ha]
    rw [hf] at e3
    have hjj := (hwf.armed k jj ha).2
    have h1 := refO_arm ho hx (-2)
    have hr1 := hr.arm hx none
    have hge : decide (-1 ≤ jj) = true := decide_eq_true (by omega)
    have H1 := Lib.hid (And.intro ((Same.refl w).setCell ⟨g, k * 4 + 3, none⟩ (.int .i64 (-2))) h1)
    by_cases hm : jj = -1
    · subst hm
      have hp : D.put k s = { D with armed := fupd D.armed k none } := by unfold DiskM.put; rw [ha]; simp
      rw [hp] at HW ⊢
      have HF := Lib.hid (refO_refD HW.out hr1 h1)
      clear hG hs hS hr hwf hwf' hi hin ho hk hn ef hh hl hwr hfx hx ha hp hf hsz hge e0 e1 e2 h1 hr1 hjj
      go_enter Try.func35, Try.ntmps35
      go_wp2_with (go_at_call 53; refine (HI.out _).mono ?_; rintro e w' ⟨rfl, rfl⟩; rw [hb])
      go_ret
      exact ⟨rfl, H1.out.1, HF.out⟩
    · obtain ⟨j, rfl⟩ := Int.eq_ofNat_of_zero_le (show 0 ≤ jj by omega)
      have hp : D.put k s = { D with armed := fupd D.armed k none, cache := fupd D.cache j (some s) } := by unfold DiskM.put; rw [ha]; simp only; rw [if_neg hm, Int.toNat_natCast]
      rw [hp] at HW ⊢
      have hjn : j < n := by have := hr.len; omega
      obtain ⟨y, hy⟩ : ∃ y, (L.set k (x.1.arm (armI none), x.2))[j]? = some y := ⟨_, List.getElem?_eq_getElem (by rw [List.length_set]; omega)⟩
      have HP := Lib.hid (hr1.put hy s)
      have HY := Lib.hid hy
      have hji : (j : Int) < (n : Int) := by omega
      have hj0 : (0 : Int) ≤ (j : Int) := by omega
      have hlt0 : decide ((j : Int) < 0) = false := decide_eq_false (by omega)
      clear hG hs hS hr hwf hwf' hi hin ho hk hn ef hh hl hwr hfx hx ha hp hf hsz e0 e1 e2 h1 hr1 hjj hm hy hjn
      go_enter Try.func35, Try.ntmps35
      go_upto_region 7 with (go_at_call 53; refine (HI.out _).mono ?_; rintro e w' ⟨rfl, rfl⟩; rw [hb])
      generalize w.setCell ⟨g, k * 4 + 3, none⟩ (.int .i64 (-2)) = w1 at H1 ⊢
      clear e3 f3 c0
      have HO1 := Lib.hid H1.out.2
      have c0 : w1.cell? ⟨p, 0, none⟩ = some (.slice (some ⟨g, 0, none⟩) n cap) := (refO_cells HO1.out HY.out).1
      go_upto_region 9 with (fail)
      obtain ⟨W2, cap2, hcv, hsm2, hs2⟩ := HCN.out _ _ HO1.out
      have ho2 : Sat W2 (refO p g n cap (L.set k (x.1.arm (armI none), x.2)) (rowB TU8 (.slice (some ⟨w1.heap.size, 0, none⟩) 64 cap2) s * F)) := hs2.perm (show _ = refO p g n cap (L.set k (x.1.arm (armI none), x.2)) (rowB TU8 (.slice (some ⟨w1.heap.size, 0, none⟩) 64 cap2) s * F) from by unfold refO; ac_rfl)
      obtain ⟨d0, -, g1, -, -, gf⟩ := refO_cells ho2 HY.out
      have f1 := gf (j * 4 + 1)
      have hst := refO_store ho2 HY.out (cacd y.1 s, y.2.1, .slice (some ⟨w1.heap.size, 0, none⟩) 64 cap2) 1 (.slice (some ⟨w1.heap.size, 0, none⟩) 64 cap2) (by omega) rfl (G := rowB TU8 y.2.2 y.1.cac * F) (secB_cac y s _ F)
      have H2 := Lib.hid (And.intro (H1.out.1.trans hsm2) hst)
      clear hs2 hst ho2 gf hsm2
      go_upto_region 10 with (((with_reducible (refine wpList_run ?_ (exec_convert ?_ ?_ hcv) ?_)); rfl; rfl; rfl))
      clear hcv d0 g1 f1 c0
      replace H2 := Lib.hid (And.intro (H2.out.1.setCell ⟨g, j * 4 + 1, none⟩ (.slice (some ⟨w1.heap.size, 0, none⟩) 64 cap2)) H2.out.2)
      generalize hW3 : W2.setCell ⟨g, j * 4 + 1, none⟩ _ = W3 at H2 ⊢
      have hkl : j < (L.set k (x.1.arm (armI none), x.2)).length := (List.getElem?_eq_some_iff.1 HY.out).1
      have hx3 : ((L.set k (x.1.arm (armI none), x.2)).set j (cacd y.1 s, y.2.1, .slice (some ⟨w1.heap.size, 0, none⟩) 64 cap2))[j]? = some (cacd y.1 s, y.2.1, .slice (some ⟨w1.heap.size, 0, none⟩) 64 cap2) := by rw [List.getElem?_set_self hkl]
      obtain ⟨c0, -, -, g2, -, gf⟩ := refO_cells H2.out.2 hx3
      have f2 := gf (j * 4 + 2)
      have hst := refO_store H2.out.2 hx3 (y.1.put s, y.2.1, .slice (some ⟨w1.heap.size, 0, none⟩) 64 cap2) 2 (.bool true) (by omega) rfl rfl
      rw [List.set_set] at hst
      have HF := Lib.hid (And.intro (H2.out.1.setCell ⟨g, j * 4 + 2, none⟩ (.bool true)) (refO_refD HW.out (HP.out _) (refO_drop hst)))
      clear hst hx3 gf hkl H2 hW3
      go_wp2
      go_ret
      exact ⟨rfl, HF.out⟩
end Go.Proofs.Ytdeblpnkpefbcaa
