import Derived.Test.YtogmkbhbmmgidaaGreatP22
import Derived.Test.YtogmkbhbmmgidaaGreatP01
import Derived.Laws.CopyRow
/- Part 23 of a proof; the last part says what is proved. -/
section
namespace Go.Proofs.YtogmkbhbmmgidaaGreat
open Go.RowKit Go.Sl Go.ChangeMaps
set_option maxRecDepth 20000 in
set_option maxHeartbeats 2000000 in
theorem rlose_any (p : Nat) (D : DiskM) (F : HProp) (i : Int) (w : World) (hS : Sat w (refD RT p D * F)) :
    Calls Tryz.prog 90 #[.pointer (some ⟨p, 0, none⟩), .int .i64 i] w fun e w' => e = .returned (.int .i64 (D.lose i).2) ∧ Hid (Same w w' ∧ Sat w' (refD RT p (D.lose i).1 * F)) := by
  obtain ⟨v, L, ⟨hwf, hr⟩, hs⟩ := refD_iff.1 hS
  have c0 : w.cell? ⟨p, 0, none⟩ = some v := cells_at hs.block 0
  obtain ⟨ao, cap, rfl⟩ := ownAt_slice hs.right
  have HI := Lib.hid (fun i => ris_any p (.slice ao L.length cap) L.length i w c0 ⟨ao, cap, rfl⟩)
  have hin := ref_n hr
  obtain ⟨G, hG⟩ : ∃ G, Hid (D.lose i = G) := ⟨_, Lib.hid rfl⟩
  rw [hG.out]
  obtain ⟨n, hn⟩ : ∃ n, L.length = n := ⟨_, rfl⟩
  rw [hn] at HI hin c0
  by_cases hi : 0 ≤ i ∧ i < (n : Int)
  · obtain ⟨k, rfl⟩ := Int.eq_ofNat_of_zero_le hi.1
    have hk : k < L.length := by omega
    obtain ⟨x, hx⟩ : ∃ x, L[k]? = some x := ⟨_, List.getElem?_eq_getElem hk⟩
    obtain ⟨g, rfl, -⟩ := sec_cells hs.right hx
    have ho : Sat w (refO p g L.length cap L F) := hs
    rw [hn] at ho
    obtain ⟨-, e0, e1, e2, e3, ef⟩ := refO_cells ho hx
    have f3 := ef (k * 4 + 3)
    have hki : (k : Int) < (n : Int) := hi.2
    have hk0 : (0 : Int) ≤ (k : Int) := hi.1
    have hh : D.has (k : Int) = true := by rw [hin]; exact in_true hi
    obtain rfl : ({ D with armed := fupd D.armed k (some (-1)) }, 0) = G := by rw [← hG.out]; unfold DiskM.lose; rw [if_pos hh]; rfl
    have hwf' := hwf.lose (k : Int)
    unfold DiskM.lose at hwf'
    rw [if_pos hh] at hwf'
    have HF := Lib.hid (And.intro ((Same.refl w).setCell ⟨g, k * 4 + 3, none⟩ (.int .i64 (-1))) (refO_refD hwf' (hr.arm hx (some (-1))) (refO_arm ho hx (-1))))
    have hb := in_true hi
    clear hG hs hS hr hwf hwf' hi hin ho hk hn ef hh
    go_enter Tryz.func90, Tryz.ntmps90
    go_wp2_with (go_at_call 97; refine (HI.out _).mono ?_; rintro e w' ⟨rfl, rfl⟩; rw [hb])
    go_ret
    exact ⟨rfl, HF.out⟩
  · have hb := in_false hi
    have hh : D.has i = false := by rw [hin]; exact hb
    obtain rfl : (D, 1) = G := by rw [← hG.out]; unfold DiskM.lose; rw [hh]; rfl
    have HF := Lib.hid (And.intro (Same.refl w) hS)
    clear hG hs hS hr hwf hi hin hn hh
    go_enter Tryz.func90, Tryz.ntmps90
    go_wp2_with (go_at_call 97; refine (HI.out _).mono ?_; rintro e w' ⟨rfl, rfl⟩; rw [hb])
    go_ret
    exact ⟨rfl, HF.out⟩
set_option maxRecDepth 20000 in
set_option maxHeartbeats 2000000 in
theorem rmisdirect_any (p : Nat) (D : DiskM) (F : HProp) (i tt : Int) (w : World) (hS : Sat w (refD RT p D * F)) :
    Calls Tryz.prog 91 #[.pointer (some ⟨p, 0, none⟩), .int .i64 i, .int .i64 tt] w fun e w' => e = .returned (.int .i64 (D.misdirect i tt).2) ∧ Hid (Same w w' ∧ Sat w' (refD RT p (D.misdirect i tt).1 * F)) := by
  obtain ⟨v, L, ⟨hwf, hr⟩, hs⟩ := refD_iff.1 hS
  have c0 : w.cell? ⟨p, 0, none⟩ = some v := cells_at hs.block 0
  obtain ⟨ao, cap, rfl⟩ := ownAt_slice hs.right
  have HI := Lib.hid (fun i => ris_any p (.slice ao L.length cap) L.length i w c0 ⟨ao, cap, rfl⟩)
  have hin := ref_n hr
  obtain ⟨G, hG⟩ : ∃ G, Hid (D.misdirect i tt = G) := ⟨_, Lib.hid rfl⟩
  rw [hG.out]
  obtain ⟨n, hn⟩ : ∃ n, L.length = n := ⟨_, rfl⟩
  rw [hn] at HI hin c0
  by_cases hi : 0 ≤ i ∧ i < (n : Int)
  case neg =>
    have hb := in_false hi
    have hh : D.has i = false := by rw [hin]; exact hb
    obtain rfl : (D, 1) = G := by rw [← hG.out]; unfold DiskM.misdirect; rw [hh]; rfl
    have HF := Lib.hid (And.intro (Same.refl w) hS)
    clear hG hs hS hr hwf hi hin hn hh
    go_enter Tryz.func91, Tryz.ntmps91
    go_wp2_with (go_at_call 97; refine (HI.out _).mono ?_; rintro e w' ⟨rfl, rfl⟩; rw [hb])
    go_ret
    exact ⟨rfl, HF.out⟩
  by_cases ht : 0 ≤ tt ∧ tt < (n : Int)
  case neg =>
    have hb := in_true hi
    have hb2 := in_false ht
    have hh : D.has tt = false := by rw [hin]; exact hb2
    obtain rfl : (D, 1) = G := by rw [← hG.out]; unfold DiskM.misdirect; rw [hh, if_neg (by simp)]
    have HF := Lib.hid (And.intro (Same.refl w) hS)
    clear hG hs hS hr hwf hi ht hin hn hh
    go_enter Tryz.func91, Tryz.ntmps91
    go_wp2_with (go_at_call 97; refine (HI.out _).mono ?_; rintro e w' ⟨rfl, rfl⟩; first | rw [hb] | rw [hb2])
    go_ret
    exact ⟨rfl, HF.out⟩
  obtain ⟨k, rfl⟩ := Int.eq_ofNat_of_zero_le hi.1
  have hk : k < L.length := by omega
  obtain ⟨x, hx⟩ : ∃ x, L[k]? = some x := ⟨_, List.getElem?_eq_getElem hk⟩
  obtain ⟨g, rfl, -⟩ := sec_cells hs.right hx
  have ho : Sat w (refO p g L.length cap L F) := hs
  rw [hn] at ho
  obtain ⟨-, e0, e1, e2, e3, ef⟩ := refO_cells ho hx
  have f3 := ef (k * 4 + 3)
  have hki : (k : Int) < (n : Int) := hi.2
  have hk0 : (0 : Int) ≤ (k : Int) := hi.1
  have hh : D.has (k : Int) = true := by rw [hin]; exact in_true hi
  have hh2 : D.has tt = true := by rw [hin]; exact in_true ht
  obtain rfl : ({ D with armed := fupd D.armed k (some tt) }, 0) = G := by rw [← hG.out]; unfold DiskM.misdirect; rw [if_pos ⟨hh, hh2⟩]; rfl
  have hwf' := hwf.misdirect (k : Int) tt
  unfold DiskM.misdirect at hwf'
  rw [if_pos ⟨hh, hh2⟩] at hwf'
  have HF := Lib.hid (And.intro ((Same.refl w).setCell ⟨g, k * 4 + 3, none⟩ (.int .i64 tt)) (refO_refD hwf' (hr.arm hx (some tt)) (refO_arm ho hx tt)))
  have hb := in_true hi
  have hb2 := in_true ht
  clear hG hs hS hr hwf hwf' hi ht hin ho hk hn ef hh hh2
  go_enter Tryz.func91, Tryz.ntmps91
  go_wp2_with (go_at_call 97; refine (HI.out _).mono ?_; rintro e w' ⟨rfl, rfl⟩; first | rw [hb] | rw [hb2])
  go_ret
  exact ⟨rfl, HF.out⟩
set_option maxRecDepth 20000 in
set_option maxHeartbeats 4000000 in
theorem rwrite_any (p : Nat) (D : DiskM) (F : HProp) (i : Int) (s : List UInt8) (w : World) (hS : Sat w (refD RT p D * F)) :
    Calls Tryz.prog 84 #[.pointer (some ⟨p, 0, none⟩), .int .i64 i, .string (strW s)] w fun e w' => e = .returned (.int .i64 (D.write i s).2) ∧ Hid (Same w w' ∧ Sat w' (refD RT p (D.write i s).1 * F)) := by
  obtain ⟨v, L, ⟨hwf, hr⟩, hs⟩ := refD_iff.1 hS
  have c0 : w.cell? ⟨p, 0, none⟩ = some v := cells_at hs.block 0
  obtain ⟨ao, cap, rfl⟩ := ownAt_slice hs.right
  have HI := Lib.hid (fun i => ris_any p (.slice ao L.length cap) L.length i w c0 ⟨ao, cap, rfl⟩)
  have hin := ref_n hr
  obtain ⟨G, hG⟩ : ∃ G, Hid (D.write i s = G) := ⟨_, Lib.hid rfl⟩
  rw [hG.out]
  obtain ⟨n, hn⟩ : ∃ n, L.length = n := ⟨_, rfl⟩
  rw [hn] at HI hin c0
  have hcn := fun (W : World) (P : HProp) (h : Sat W P) => conv_new s W h
  have hsz : (strW s).size = s.length := by show s.toArray.size = _; simp
  obtain ⟨B, hB⟩ : ∃ B, strW s = B := ⟨_, rfl⟩
  rw [hB] at hcn hsz ⊢
  have HCN := Lib.hid hcn
  clear hcn hB
  by_cases hi : 0 ≤ i ∧ i < (n : Int)
  case neg =>
    have hb := in_false hi
    have hh : D.has i = false := by rw [hin]; exact hb
    obtain rfl : (D, 1) = G := by rw [← hG.out]; unfold DiskM.write; rw [hh]; rfl
    have HF := Lib.hid (And.intro (Same.refl w) hS)
    clear hG hs hS hr hwf hi hin hn hh hsz
    go_enter Tryz.func84, Tryz.ntmps84
    go_wp2_with (go_at_call 97; refine (HI.out _).mono ?_; rintro e w' ⟨rfl, rfl⟩; rw [hb])
    go_ret
    exact ⟨rfl, HF.out⟩
  have hb := in_true hi
  by_cases hl : s.length = 64
  case neg =>
    obtain rfl : (D, 1) = G := by rw [← hG.out]; unfold DiskM.write; rw [if_neg (fun h => hl h.2)]
    have HF := Lib.hid (And.intro (Same.refl w) hS)
    have hne : ((B.size : Int) != 64) = true := by rw [hsz]; simp; omega
    clear hG hs hS hr hwf hi hin hn hsz hl
    go_enter Tryz.func84, Tryz.ntmps84
    go_wp2_with (go_at_call 97; refine (HI.out _).mono ?_; rintro e w' ⟨rfl, rfl⟩; rw [hb])
    go_ret
    exact ⟨rfl, HF.out⟩
  obtain ⟨k, rfl⟩ := Int.eq_ofNat_of_zero_le hi.1
  have hk : k < L.length := by omega
  obtain ⟨x, hx⟩ : ∃ x, L[k]? = some x := ⟨_, List.getElem?_eq_getElem hk⟩
  obtain ⟨g, rfl, -⟩ := sec_cells hs.right hx
  have ho : Sat w (refO p g L.length cap L F) := hs
  rw [hn] at ho
  obtain ⟨-, e0, e1, e2, e3, ef⟩ := refO_cells ho hx
  have f3 := ef (k * 4 + 3)
  have hki : (k : Int) < (n : Int) := hi.2
  have hk0 : (0 : Int) ≤ (k : Int) := hi.1
  have hh : D.has (k : Int) = true := by rw [hin]; exact hb
  have hs64 : B.size = 64 := by rw [hsz, hl]
  rw [hl] at HCN
  have hwf' := hwf.write (k : Int) s
  have hGv : G = (D.put k s, 0) := by rw [← hG.out]; unfold DiskM.write; rw [if_pos ⟨hh, hl⟩]; simp
  have hwr : D.write (k : Int) s = (D.put k s, 0) := by rw [hG.out, hGv]
  rw [hwr] at hwf'
  subst hGv
  have hfx := hr.fault k x hx
  have HO := Lib.hid ho
  have HRF := Lib.hid hr
  have HX := Lib.hid hx
  have HW := Lib.hid hwf'
  have HN := Lib.hid hn
  cases ha : D.armed k with
  | none =>
    have hf : x.1.fault = -2 := by rw [hfx]; unfold faultM; rw [ha]
    rw [hf] at e3
    have hp : D.put k s = { D with cache := fupd D.cache k (some s) } := by unfold DiskM.put; rw [ha]
    rw [hp] at HW ⊢
    have HP := Lib.hid (hr.put hx s (Nat.le_of_eq hl))
    clear hG hs hS hr hwf hwf' hi hin ho hk hn ef hh hl hwr hfx hx ha hp hf hsz f3 e0 e1 e2
    go_enter Tryz.func84, Tryz.ntmps84
    go_upto_region 9 with (go_at_call 97; refine (HI.out _).mono ?_; rintro e w' ⟨rfl, rfl⟩; rw [hb])
    obtain ⟨W2, cap2, hcv, hsm2, hs2⟩ := HCN.out _ _ HO.out
    have ho2 : Sat W2 (refO p g n cap L (rowB TU8 (.slice (some ⟨w.heap.size, 0, none⟩) 64 cap2) s * F)) := hs2.perm (show _ = refO p g n cap L (rowB TU8 (.slice (some ⟨w.heap.size, 0, none⟩) 64 cap2) s * F) from by unfold refO; ac_rfl)
    obtain ⟨d0, -, g1, -, -, gf⟩ := refO_cells ho2 HX.out
    have f1 := gf (k * 4 + 1)
    have hst := refO_store ho2 HX.out (cacd x.1 s, x.2.1, .slice (some ⟨w.heap.size, 0, none⟩) 64 cap2) 1 (.slice (some ⟨w.heap.size, 0, none⟩) 64 cap2) (by omega) rfl (G := rowB TU8 x.2.2 x.1.cac * F) (secB_cac x s _ F)
    have H2 := Lib.hid (And.intro ((Same.refl w).trans hsm2) hst)
    clear hs2 hst ho2 gf hsm2
    go_upto_region 10 with (((with_reducible (refine wpList_run ?_ (exec_convert ?_ ?_ hcv) ?_)); rfl; rfl; rfl))
    clear hcv d0 g1 f1 c0
    replace H2 := Lib.hid (And.intro (H2.out.1.setCell ⟨g, k * 4 + 1, none⟩ (.slice (some ⟨w.heap.size, 0, none⟩) 64 cap2)) H2.out.2)
    generalize hW3 : W2.setCell ⟨g, k * 4 + 1, none⟩ _ = W3 at H2 ⊢
    have hkl : k < L.length := (List.getElem?_eq_some_iff.1 HX.out).1
    have hx3 : (L.set k (cacd x.1 s, x.2.1, .slice (some ⟨w.heap.size, 0, none⟩) 64 cap2))[k]? = some (cacd x.1 s, x.2.1, .slice (some ⟨w.heap.size, 0, none⟩) 64 cap2) := by rw [List.getElem?_set_self hkl]
    obtain ⟨c0, -, -, g2, -, gf⟩ := refO_cells H2.out.2 hx3
    have f2 := gf (k * 4 + 2)
    have hst := refO_store H2.out.2 hx3 (x.1.put s, x.2.1, .slice (some ⟨w.heap.size, 0, none⟩) 64 cap2) 2 (.bool true) (by omega) rfl rfl
    rw [List.set_set] at hst
    have HF := Lib.hid (And.intro (H2.out.1.setCell ⟨g, k * 4 + 2, none⟩ (.bool true)) (refO_refD HW.out (HP.out _) (refO_drop hst)))
    clear hst hx3 gf hkl H2 hW3
    go_wp2
    go_ret
    exact ⟨rfl, HF.out⟩
  | some jj =>
    have hf : x.1.fault = jj := by rw [hfx]; unfold faultM; rw [ha]
    rw [hf] at e3
    have hjj := (hwf.armed k jj ha).2
    have h1 := refO_arm ho hx (-2)
    have hr1 := hr.arm hx none
    have hge : decide (-1 ≤ jj) = true := decide_eq_true (by omega)
    have H1 := Lib.hid (And.intro ((Same.refl w).setCell ⟨g, k * 4 + 3, none⟩ (.int .i64 (-2))) h1)
    by_cases hm : jj = -1
    · subst hm
      have hp : D.put k s = { D with armed := fupd D.armed k none } := by unfold DiskM.put; rw [ha]; simp
      rw [hp] at HW ⊢
      have HF := Lib.hid (refO_refD HW.out hr1 h1)
      clear hG hs hS hr hwf hwf' hi hin ho hk hn ef hh hl hwr hfx hx ha hp hf hsz hge e0 e1 e2 h1 hr1 hjj
      go_enter Tryz.func84, Tryz.ntmps84
      go_wp2_with (go_at_call 97; refine (HI.out _).mono ?_; rintro e w' ⟨rfl, rfl⟩; rw [hb])
      go_ret
      exact ⟨rfl, H1.out.1, HF.out⟩
    · obtain ⟨j, rfl⟩ := Int.eq_ofNat_of_zero_le (show 0 ≤ jj by omega)
      have hp : D.put k s = { D with armed := fupd D.armed k none, cache := fupd D.cache j (some s) } := by unfold DiskM.put; rw [ha]; simp only; rw [if_neg hm, Int.toNat_natCast]
      rw [hp] at HW ⊢
      have hjn : j < n := by have := hr.len; omega
      obtain ⟨y, hy⟩ : ∃ y, (L.set k (x.1.arm (armI none), x.2))[j]? = some y := ⟨_, List.getElem?_eq_getElem (by rw [List.length_set]; omega)⟩
      have HP := Lib.hid (hr1.put hy s (Nat.le_of_eq hl))
      have HY := Lib.hid hy
      have hji : (j : Int) < (n : Int) := by omega
      have hj0 : (0 : Int) ≤ (j : Int) := by omega
      have hlt0 : decide ((j : Int) < 0) = false := decide_eq_false (by omega)
      clear hG hs hS hr hwf hwf' hi hin ho hk hn ef hh hl hwr hfx hx ha hp hf hsz e0 e1 e2 h1 hr1 hjj hm hy hjn
      go_enter Tryz.func84, Tryz.ntmps84
      go_upto_region 7 with (go_at_call 97; refine (HI.out _).mono ?_; rintro e w' ⟨rfl, rfl⟩; rw [hb])
      generalize w.setCell ⟨g, k * 4 + 3, none⟩ (.int .i64 (-2)) = w1 at H1 ⊢
      clear e3 f3 c0
      have HO1 := Lib.hid H1.out.2
      have c0 : w1.cell? ⟨p, 0, none⟩ = some (.slice (some ⟨g, 0, none⟩) n cap) := (refO_cells HO1.out HY.out).1
      go_upto_region 9 with (fail)
      obtain ⟨W2, cap2, hcv, hsm2, hs2⟩ := HCN.out _ _ HO1.out
      have ho2 : Sat W2 (refO p g n cap (L.set k (x.1.arm (armI none), x.2)) (rowB TU8 (.slice (some ⟨w1.heap.size, 0, none⟩) 64 cap2) s * F)) := hs2.perm (show _ = refO p g n cap (L.set k (x.1.arm (armI none), x.2)) (rowB TU8 (.slice (some ⟨w1.heap.size, 0, none⟩) 64 cap2) s * F) from by unfold refO; ac_rfl)
      obtain ⟨d0, -, g1, -, -, gf⟩ := refO_cells ho2 HY.out
      have f1 := gf (j * 4 + 1)
      have hst := refO_store ho2 HY.out (cacd y.1 s, y.2.1, .slice (some ⟨w1.heap.size, 0, none⟩) 64 cap2) 1 (.slice (some ⟨w1.heap.size, 0, none⟩) 64 cap2) (by omega) rfl (G := rowB TU8 y.2.2 y.1.cac * F) (secB_cac y s _ F)
      have H2 := Lib.hid (And.intro (H1.out.1.trans hsm2) hst)
      clear hs2 hst ho2 gf hsm2
      go_upto_region 10 with (((with_reducible (refine wpList_run ?_ (exec_convert ?_ ?_ hcv) ?_)); rfl; rfl; rfl))
      clear hcv d0 g1 f1 c0
      replace H2 := Lib.hid (And.intro (H2.out.1.setCell ⟨g, j * 4 + 1, none⟩ (.slice (some ⟨w1.heap.size, 0, none⟩) 64 cap2)) H2.out.2)
      generalize hW3 : W2.setCell ⟨g, j * 4 + 1, none⟩ _ = W3 at H2 ⊢
      have hkl : j < (L.set k (x.1.arm (armI none), x.2)).length := (List.getElem?_eq_some_iff.1 HY.out).1
      have hx3 : ((L.set k (x.1.arm (armI none), x.2)).set j (cacd y.1 s, y.2.1, .slice (some ⟨w1.heap.size, 0, none⟩) 64 cap2))[j]? = some (cacd y.1 s, y.2.1, .slice (some ⟨w1.heap.size, 0, none⟩) 64 cap2) := by rw [List.getElem?_set_self hkl]
      obtain ⟨c0, -, -, g2, -, gf⟩ := refO_cells H2.out.2 hx3
      have f2 := gf (j * 4 + 2)
      have hst := refO_store H2.out.2 hx3 (y.1.put s, y.2.1, .slice (some ⟨w1.heap.size, 0, none⟩) 64 cap2) 2 (.bool true) (by omega) rfl rfl
      rw [List.set_set] at hst
      have HF := Lib.hid (And.intro (H2.out.1.setCell ⟨g, j * 4 + 2, none⟩ (.bool true)) (refO_refD HW.out (HP.out _) (refO_drop hst)))
      clear hst hx3 gf hkl H2 hW3
      go_wp2
      go_ret
      exact ⟨rfl, HF.out⟩
end Go.Proofs.YtogmkbhbmmgidaaGreat
end
section
namespace Go.Proofs.YtogmkbhbmmgidaaGreat
open Go.RowKit Go.Sl Go.ChangeMaps
def refA (p : Nat) (ao : Option Addr) (n cap : Nat) (L : List SecV) (F : HProp) : HProp := pts p (.cells #[.slice ao n cap] TRk (0, 0)) * (ownAt TRs 4 (.slice ao n cap) L.length (L.flatMap secE) * (secsT TU8 L * F))
theorem refA_refD {p : Nat} {ao : Option Addr} {n cap : Nat} {L : List SecV} {F : HProp} {D : DiskM} {w : World} (hwf : D.WF) (hr : RefOf D L) (h : Sat w (refA p ao n cap L F)) : Sat w (refD RT p D * F) := refD_iff.2 ⟨.slice ao n cap, L, ⟨hwf, hr⟩, h⟩
def penK (D : DiskM) (k : Nat) : List Nat := (List.range k).filter fun i => (D.cache i).isSome
theorem penK_succ (D : DiskM) (k : Nat) : penK D (k + 1) = penK D k ++ (if (D.cache k).isSome = true then [k] else []) := by
  unfold penK; rw [List.range_succ, List.filter_append]; congr 1
  cases h : (D.cache k).isSome <;> simp [h]
theorem penK_le (D : DiskM) (k : Nat) : (penK D k).length ≤ k := by
  unfold penK
  refine Nat.le_trans (List.length_filter_le _ _) ?_
  rw [List.length_range]; exact Nat.le_refl _
def intV (j : Nat) : Value := .int .i64 (j : Int)
abbrev TIn : TypeId := 3
structure PenSt (w : World) (p : Nat) (ao : Option Addr) (n cap : Nat) (D : DiskM) (L : List SecV) (F : HProp) (o i : Value) (wr : World) : Prop where
  st : ∃ k : Nat, k ≤ n ∧ i = .int .i64 (k : Int) ∧ Hid (Same w wr ∧ Sat wr (ownAt TIn 1 o (penK D k).length ((penK D k).map intV) * refA p ao n cap L F))
theorem info_In : (Tryz.prog.info? TIn).map (fun i => (i.zero, i.size, i.bytes)) = some (some (.int .i64 0), 1, 8) := by kernel_rfl
theorem one_newQ (w : World) (c : Int) : ∀ j u, [Value.int .i64 c][j]? = some u → (w.alloc (.cells #[.int .i64 c] TIn)).cell? ((⟨w.heap.size, 0, none⟩ : Addr).add j) = some u := by
  intro j u hu
  match j, hu with
  | 0, hu => rw [Addr.add_mid, cells_at (heap_alloc_new _ _)]; simpa using hu
set_option maxRecDepth 20000 in
set_option maxHeartbeats 4000000 in
theorem rpendingA_any (p : Nat) (D : DiskM) (F : HProp) (ao : Option Addr) (n cap : Nat) (L : List SecV) (w : World) (hwf : D.WF) (hr : RefOf D L) (hn0 : L.length = n) (h0 : Sat w (refA p ao n cap L F)) :
    Calls Tryz.prog 87 #[.pointer (some ⟨p, 0, none⟩)] w fun e w' => ∃ v, e = .returned v ∧ Hid (Same w w' ∧ Sat w' (ownAt TIn 1 v D.pending.length (D.pending.map intV) * refA p ao n cap L F)) := by
  have hn := Lib.hid hn0
  clear hn0
  have hn6 : n ≤ 65536 := by rw [← hn.out, hr.len]; exact hwf.small
  have HR := Lib.hid (And.intro hwf hr)
  have H0 := Lib.hid h0
  clear h0 hwf hr
  go_enter Tryz.func87, Tryz.ntmps87
  go_upto_region 3 with (fail)
  go_loopw [3, 4] (fun o i wr => PenSt w p ao n cap D L F o i wr) (fun _ i _ => n - (intOf i).toNat)
  case atStart => exact ⟨⟨0, Nat.zero_le _, rfl, Same.refl w, ownAt_nil.2 H0.out⟩⟩
  case round =>
    clear H0
    obtain ⟨k, hk, rfl, H1⟩ := hrel.st
    clear hrel
    have c0 : wr.cell? ⟨p, 0, none⟩ = some (.slice ao n cap) := cells_at (H1.out.2.right.block) 0
    obtain ⟨ro, rc, rfl⟩ := ownAt_slice H1.out.2
    have hpl := penK_le D k
    obtain ⟨m, hm⟩ : ∃ m, Hid ((penK D k).length = m) := ⟨_, Lib.hid rfl⟩
    rw [hm.out] at hpl H1 ⊢
    by_cases hlt : k < n
    · have hltd : decide ((k : Int) < (n : Int)) = true := decide_eq_true (by omega)
      have hki : (k : Int) < (n : Int) := by omega
      have hk0 : (0 : Int) ≤ (k : Int) := by omega
      have hk6 : (k : Int) ≤ 65536 := by omega
      have hw1 : IntKind.i64.wrap ((k : Int) + 1) = (k : Int) + 1 := IntWalk.i64_in _ (by omega)
      obtain ⟨x, hx⟩ : ∃ x, L[k]? = some x := ⟨_, List.getElem?_eq_getElem (by rw [hn.out]; exact hlt)⟩
      obtain ⟨g, rfl, -, -, e2, -⟩ := sec_cells (H1.out.2.right.right) hx
      have hpe := HR.out.2.pend k x hx
      have HL := Lib.hid (And.intro hk hlt)
      cases hp : x.1.pend
      · rw [hp] at e2 hpe
        have HS := Lib.hid (show penK D (k + 1) = penK D k from by rw [penK_succ, if_neg (by rw [← hpe]; decide), List.append_nil])
        clear hp hpe hx hlt hk
        go_wp2
        go_roundw
        case rel => exact ⟨⟨k + 1, HL.out.2, rfl, by rw [HS.out, hm.out]; exact H1.out⟩⟩
        case measure => have := HL.out; simp only [intOf]; omega
      · rw [hp] at e2 hpe
        have HS := Lib.hid (show penK D (k + 1) = penK D k ++ [k] from by rw [penK_succ, if_pos (by rw [← hpe])])
        clear hp hpe hx hlt hk
        obtain ⟨ti, hti, hz0, hts, hz2⟩ := info_parts info_In
        go_wp2_with (at_builtin; refine wpList_append_ownAt rfl _ _ 43 TIn rfl ti _ Tryz.underlying43 hti hz0 hts hz2 rfl (H1.out.2.allocKeep _) [.int .i64 (k : Int)] rfl rfl rfl (one_newQ _ _) (by simp [Value.oneCell']) (by unfold maxLen; omega) (by omega) ?_; intro v8 w8 h8)
        go_roundw
        case rel => exact ⟨⟨k + 1, HL.out.2, rfl, (H1.out.1.alloc _).trans h8.out.1, by rw [HS.out, List.length_append, hm.out, List.map_append]; exact h8.out.2⟩⟩
        case measure => have := HL.out; simp only [intOf]; omega
    · obtain rfl : k = n := by omega
      have hltd : decide (k < k) = false := decide_eq_false (by omega)
      have HF := Lib.hid (show D.pending = penK D k from by
        have : D.n = k := by rw [← HR.out.2.len, hn.out]
        unfold DiskM.pending penK; rw [this])
      clear hlt hk
      go_wp2
      go_ret
      refine ⟨_, rfl, H1.out.1, ?_⟩
      rw [HF.out, hm.out]
      exact H1.out.2
theorem rpending_any (p : Nat) (D : DiskM) (F : HProp) (w : World) (hS : Sat w (refD RT p D * F)) :
    Calls Tryz.prog 87 #[.pointer (some ⟨p, 0, none⟩)] w fun e w' => ∃ v, e = .returned v ∧ Hid (Same w w' ∧ Sat w' (ownAt TIn 1 v D.pending.length (D.pending.map intV) * (refD RT p D * F))) := by
  obtain ⟨v, L, ⟨hwf, hr⟩, hs⟩ := refD_iff.1 hS
  obtain ⟨ao, cap, rfl⟩ := ownAt_slice hs.right
  refine (rpendingA_any p D F ao L.length cap L w hwf hr rfl hs).mono fun e w' h => ?_
  obtain ⟨v, he, h2⟩ := h
  refine ⟨v, he, h2.out.1, ?_⟩
  have h3 := refA_refD hwf hr (h2.out.2.perm (show _ = refA p ao L.length cap L (ownAt TIn 1 v D.pending.length (D.pending.map intV) * F) from by unfold refA; ac_rfl))
  exact h3.perm (by ac_rfl)
end Go.Proofs.YtogmkbhbmmgidaaGreat
end
section
namespace Go.Sl
open Go Go.RowKit
section
variable {P : Program} {w : World}
variable {ops : Array Oper} {rest : List Oper} {o : Oper} {a : Act} {Q : Exit → Act → World → Prop}
theorem exec_sl_run {T : TypeId} {x : Operand} {lo hi : Option Operand} {p v' : Value} (ho : o.op = .slice T x lo hi none) (hx : a.eval x = p) (h : (Instr.sliceAt T p (lo.map a.eval) (hi.map a.eval) none).run P w = .ok v' w) : (execOp a.eval o).run P w = .ok (.value v') w := by
  unfold execOp
  simp [ho, hx, h]
section
variable {T e : TypeId} {k : Nat} (hu : P.underlying T = some (.slice e)) (he : (P.info? e).map (·.size) = some k) (b off n cap : Nat)
include hu he
theorem run_sl_hi (hi : Nat) (h : hi ≤ cap) (w : World) : (Instr.sliceAt T (.slice (some ⟨b, off, none⟩) n cap) none (some (.int .i64 (hi : Int))) none).run P w = .ok (.slice (some ⟨b, off, none⟩) hi cap) w := by
  obtain ⟨ti, hti, hts⟩ := Option.map_eq_some_iff.1 he
  simp [Instr.sliceAt, Instr.slice, run_underlying hu, Instr.sliceBounds, Instr.sliceBound, asIntOf, sizeOf, typeInfo, hti, h, Addr.add_mid]
theorem run_sl_lo (lo : Nat) (h : lo ≤ n) (w : World) : (Instr.sliceAt T (.slice (some ⟨b, off, none⟩) n cap) (some (.int .i64 (lo : Int))) none none).run P w = .ok (.slice (some (if cap = lo then ⟨b, off, none⟩ else ⟨b, off + lo * k, none⟩)) (n - lo) (cap - lo)) w := by
  obtain ⟨ti, hti, hts⟩ := Option.map_eq_some_iff.1 he
  by_cases hc : cap = lo
  · simp [Instr.sliceAt, Instr.slice, run_underlying hu, Instr.sliceBounds, Instr.sliceBound, asIntOf, sizeOf, typeInfo, hti, h, Addr.add_mid, hc]
  · simp [Instr.sliceAt, Instr.slice, run_underlying hu, Instr.sliceBounds, Instr.sliceBound, asIntOf, sizeOf, typeInfo, hti, h, Addr.add_mid, hts, hc]
end
end
end Go.Sl
end
