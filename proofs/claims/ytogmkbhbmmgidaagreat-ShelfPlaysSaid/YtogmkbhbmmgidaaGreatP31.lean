import Derived.Test.YtogmkbhbmmgidaaGreatP25
import Derived.Test.YtogmkbhbmmgidaaGreatP23
import Derived.Test.YtogmkbhbmmgidaaGreatP07
/- Part 31 of a proof; the last part says what is proved. -/
section
namespace Go.Proofs.YtogmkbhbmmgidaaGreat
open Go.RowKit Go.Sl Go.ChangeMaps
set_option maxRecDepth 20000 in
set_option maxHeartbeats 4000000 in
theorem rlose17_any (p : Nat) (S : ShelfM) (F : HProp) (a : PlaceM) (w : World) (hS : Sat w (rshAt RS p S * F)) :
    Calls Tryz.prog 48 #[.pointer (some ⟨p, 0, none⟩), .agg (plA a)] w fun e w' => e = .returned (.int .i64 (S.lose a).2) ∧ Hid (Same w w' ∧ Sat w' (rshAt RS p (S.lose a).1 * F)) := by
  have hwf := rshAt_wf hS
  obtain ⟨d, ar, ix⟩ := a
  have HA := Lib.hid (show Same w (w.alloc (.cells (plA ⟨d, ar, ix⟩) TPl)) ∧ Sat (w.alloc (.cells (plA ⟨d, ar, ix⟩) TPl)) (rshAt RS p S * (pts w.heap.size (.cells (plA ⟨d, ar, ix⟩) TPl (0, 0)) * F)) from ⟨(Same.refl w).alloc _, (hS.alloc (.cells (plA ⟨d, ar, ix⟩) TPl)).perm (by ac_rfl)⟩)
  have HNB := Lib.hid (fun G W (h : Sat W (rshAt RS p S * G)) => rnumber_any p S G ⟨d, ar, ix⟩ W h)
  have hwr : S.lose ⟨d, ar, ix⟩ = if S.number ⟨d, ar, ix⟩ < 0 ∨ true = false then (S, 1) else if S.state d = 1 then (S.setDisk d ((S.disk d).lose (S.number ⟨d, ar, ix⟩)).1, ((S.disk d).lose (S.number ⟨d, ar, ix⟩)).2) else (S, 15) := rfl
  clear hS
  by_cases hn : S.number ⟨d, ar, ix⟩ < 0
  · rw [if_pos (.inl hn)] at hwr
    rw [hwr]
    rw [show numM S ⟨d, ar, ix⟩ = 0 by unfold numM; rw [if_pos hn], decide_eq_false (by omega : ¬ 0 ≤ S.number ⟨d, ar, ix⟩)] at HNB
    clear hwr hn hwf
    go_enter Tryz.func48, Tryz.ntmps48
    go_upto_region 1 with (fail)
    unfold plA at HA
    generalize w.alloc _ = W1 at HA ⊢
    generalize w.heap.size = B at HA ⊢
    have hbx := HA.out.2.perm (show _ = pts B (.cells #[.int .i64 d, .int .i64 ar, .int .i64 ix] TPl (0, 0)) * (rshAt RS p S * F) from by ac_rfl)
    have b0 : W1.cell? ⟨B, 0, none⟩ = some (.int .i64 d) := cells_at hbx.block 0
    have b1 : W1.cell? ⟨B, 1, none⟩ = some (.int .i64 ar) := cells_at hbx.block 1
    have b2 : W1.cell? ⟨B, 2, none⟩ = some (.int .i64 ix) := cells_at hbx.block 2
    clear hbx
    go_wp2_with (first
      | (go_at_call 81; refine (HNB.out _ W1 HA.out.2).mono ?_; rintro e w2 ⟨rfl, hb⟩; clear b0 b1 b2; have H2 := Lib.hid (And.intro (HA.out.1.below hb) (HA.out.2.below hb)); clear hb; have b0 : w2.cell? ⟨B, 0, none⟩ = some (.int .i64 d) := cells_at (H2.out.2.perm (show _ = pts B (.cells #[.int .i64 d, .int .i64 ar, .int .i64 ix] TPl (0, 0)) * (rshAt RS p S * F) from by ac_rfl)).block 0))
    go_ret
    exact ⟨rfl, H2.out.1, (H2.out.2.perm (show _ = pts B (.cells #[.int .i64 d, .int .i64 ar, .int .i64 ix] TPl (0, 0)) * (rshAt RS p S * F) from by ac_rfl)).right⟩
  have hnm : numM S ⟨d, ar, ix⟩ = S.number ⟨d, ar, ix⟩ := by unfold numM; rw [if_neg hn]
  rw [hnm, decide_eq_true (by omega : 0 ≤ S.number ⟨d, ar, ix⟩)] at HNB
  rw [if_neg (by intro h; rcases h with h | h; exact hn h; cases h)] at hwr
  have hlt := ShelfM.number_lt hwf (a := ⟨d, ar, ix⟩) (by omega)
  dsimp only at hlt
  obtain ⟨hd0, hd1⟩ := ShelfM.state_in hwf hlt.1
  obtain ⟨k, rfl⟩ := Int.eq_ofNat_of_zero_le hd0
  have hkb : k < S.bays.length := by omega
  have HST0 := Lib.hid hlt.1
  have HWF := Lib.hid hwf
  obtain ⟨nu, hnu⟩ : ∃ nu, nu = S.number ⟨(k : Int), ar, ix⟩ := ⟨_, rfl⟩
  rw [← hnu] at HNB hwr
  have HK := Lib.hid hkb
  clear hnu hnm hlt hd0 hd1 hwf hn hkb
  by_cases h1 : S.state (k : Int) = 1
  case neg =>
    rw [if_neg h1] at hwr
    rw [hwr]
    have e1 : (S.state (k : Int) != 1) = true := by simp [h1]
    clear hwr h1 HST0 HWF
    go_enter Tryz.func48, Tryz.ntmps48
    go_upto_region 1 with (fail)
    unfold plA at HA
    generalize w.alloc _ = W1 at HA ⊢
    generalize w.heap.size = B at HA ⊢
    have hbx := HA.out.2.perm (show _ = pts B (.cells #[.int .i64 (k : Int), .int .i64 ar, .int .i64 ix] TPl (0, 0)) * (rshAt RS p S * F) from by ac_rfl)
    have b0 : W1.cell? ⟨B, 0, none⟩ = some (.int .i64 (k : Int)) := cells_at hbx.block 0
    have b1 : W1.cell? ⟨B, 1, none⟩ = some (.int .i64 ar) := cells_at hbx.block 1
    have b2 : W1.cell? ⟨B, 2, none⟩ = some (.int .i64 ix) := cells_at hbx.block 2
    clear hbx
    go_upto_region 4 with (first
      | (go_at_call 81; refine (HNB.out _ W1 HA.out.2).mono ?_; rintro e w2 ⟨rfl, hb⟩; clear b0 b1 b2; have H2 := Lib.hid (And.intro (HA.out.1.below hb) (HA.out.2.below hb)); clear hb; have b0 : w2.cell? ⟨B, 0, none⟩ = some (.int .i64 (k : Int)) := cells_at (H2.out.2.perm (show _ = pts B (.cells #[.int .i64 (k : Int), .int .i64 ar, .int .i64 ix] TPl (0, 0)) * (rshAt RS p S * F) from by ac_rfl)).block 0))
    obtain ⟨g, capb, gs, caps, q, R, ⟨_, c7⟩, ⟨_, cs⟩, _⟩ := rsh_bay H2.out.2 HK.out
    have hkn : (k : Int) < (S.bays.length : Int) := by have := HK.out; omega
    have hk0 : (0 : Int) ≤ (k : Int) := by omega
    generalize S.bays.length = n at c7 hkn
    generalize S.state (k : Int) = st at cs e1
    go_quiet (fail)
    go_wp2
    go_ret
    exact ⟨rfl, H2.out.1.drewN _, ((H2.out.2.perm (show _ = pts B (.cells #[.int .i64 (k : Int), .int .i64 ar, .int .i64 ix] TPl (0, 0)) * (rshAt RS p S * F) from by ac_rfl)).right).drewN _⟩
  case pos =>
    rw [if_pos h1] at hwr
    have HRE := Lib.hid (fun q G W (h : Sat W (refD RT q (S.disk k) * G)) => rlose_any q (S.disk k) G nu W h)
    have HDN := Lib.hid (show ((S.disk k).lose nu).1.n = (S.disk k).n from DiskM.lose_n _ _)
    rw [hwr]
    have H1 := Lib.hid h1
    generalize (S.disk k).lose nu = rd at *
    clear hwr h1
    go_enter Tryz.func48, Tryz.ntmps48
    go_upto_region 1 with (fail)
    unfold plA at HA
    generalize w.alloc _ = W1 at HA ⊢
    generalize w.heap.size = B at HA ⊢
    have hbx := HA.out.2.perm (show _ = pts B (.cells #[.int .i64 (k : Int), .int .i64 ar, .int .i64 ix] TPl (0, 0)) * (rshAt RS p S * F) from by ac_rfl)
    have b0 : W1.cell? ⟨B, 0, none⟩ = some (.int .i64 (k : Int)) := cells_at hbx.block 0
    have b1 : W1.cell? ⟨B, 1, none⟩ = some (.int .i64 ar) := cells_at hbx.block 1
    have b2 : W1.cell? ⟨B, 2, none⟩ = some (.int .i64 ix) := cells_at hbx.block 2
    clear hbx
    go_upto_region 4 with (first
      | (go_at_call 81; refine (HNB.out _ W1 HA.out.2).mono ?_; rintro e w2 ⟨rfl, hb⟩; clear b0 b1 b2; have H2 := Lib.hid (And.intro (HA.out.1.below hb) (HA.out.2.below hb)); clear hb; have b0 : w2.cell? ⟨B, 0, none⟩ = some (.int .i64 (k : Int)) := cells_at (H2.out.2.perm (show _ = pts B (.cells #[.int .i64 (k : Int), .int .i64 ar, .int .i64 ix] TPl (0, 0)) * (rshAt RS p S * F) from by ac_rfl)).block 0))
    obtain ⟨g0, capb0, gs, caps, q0, R0, ⟨_, c7⟩, ⟨_, cs⟩, _⟩ := rsh_bay H2.out.2 HK.out
    rw [H1.out] at cs
    have hkn : (k : Int) < (S.bays.length : Int) := by have := HK.out; omega
    have hk0 : (0 : Int) ≤ (k : Int) := by omega
    obtain ⟨n, hn⟩ : ∃ n, S.bays.length = n := ⟨_, rfl⟩
    rw [hn] at c7 hkn
    have HN := Lib.hid hn
    clear hn
    go_quiet (fail)
    go_upto_region 6 with (fail)
    clear b0 c7 cs
    generalize hw3 : w2.drewN _ = w3
    have H3 := Lib.hid (show Same w w3 ∧ Sat w3 (rshAt RS p S * (pts B (.cells #[.int .i64 (k : Int), .int .i64 ar, .int .i64 ix] TPl (0, 0)) * F)) by rw [← hw3]; exact ⟨H2.out.1.drewN _, H2.out.2.drewN _⟩)
    clear hw3
    have b0 : w3.cell? ⟨B, 0, none⟩ = some (.int .i64 (k : Int)) := cells_at (H3.out.2.perm (show _ = pts B (.cells #[.int .i64 (k : Int), .int .i64 ar, .int .i64 ix] TPl (0, 0)) * (rshAt RS p S * F) from by ac_rfl)).block 0
    obtain ⟨vb, vs, vi, ps, qs, q, R, ho, hs⟩ := rsh_open H3.out.2 (k := k) HK.out
    obtain ⟨g, capb, rfl, c6, cq, -⟩ := rsh_bays ho hs
    have HO := Lib.hid ho
    rw [rshO_eq] at hs
    rw [HN.out] at c6 hs
    have HQ := Lib.hid hs
    clear ho hs
    have hS0 : w3.drew.cell? ⟨p, 6, none⟩ = some (.slice (some ⟨g, 0, none⟩) n capb) ∧ w3.drew.cell? ⟨g, k, none⟩ = some (.pointer (some ⟨q, 0, none⟩)) ∧ w3.drew.cell? ⟨B, 0, none⟩ = some (.int .i64 (k : Int)) := ⟨c6, cq, b0⟩
    refine reg_begin (fun w' => w'.cell? ⟨p, 6, none⟩ = some (.slice (some ⟨g, 0, none⟩) n capb) ∧ w'.cell? ⟨g, k, none⟩ = some (.pointer (some ⟨q, 0, none⟩)) ∧ w'.cell? ⟨B, 0, none⟩ = some (.int .i64 (k : Int))) (by kernel_rfl) ?_
    clear c6 cq b0
    (apply reg_take 0 rfl rfl (by decide +kernel) rfl); (rintro w' ⟨h1, h2, h3⟩; go_simp; rfl); exact hS0; simp only [List.setIfInBounds_toArray, List.set_cons_succ, List.set_cons_zero]
    (apply reg_take 1 rfl rfl (by decide +kernel) rfl); (rintro w' ⟨h1, h2, h3⟩; go_simp; rfl); exact hS0; simp only [List.setIfInBounds_toArray, List.set_cons_succ, List.set_cons_zero]
    (apply reg_take 2 rfl rfl (by decide +kernel) rfl); (rintro w' ⟨h1, h2, h3⟩; go_simp; rfl); exact hS0; simp only [List.setIfInBounds_toArray, List.set_cons_succ, List.set_cons_zero]
    (apply reg_take 3 rfl rfl (by decide +kernel) rfl); (rintro w' ⟨h1, h2, h3⟩; go_simp; rfl); exact hS0; simp only [List.setIfInBounds_toArray, List.set_cons_succ, List.set_cons_zero]
    (apply reg_take 4 rfl rfl (by decide +kernel) rfl); (rintro w' ⟨h1, h2, h3⟩; go_simp; rfl); exact hS0; simp only [List.setIfInBounds_toArray, List.set_cons_succ, List.set_cons_zero]
    (apply reg_take 5 rfl rfl (by decide +kernel) rfl); (rintro w' ⟨h1, h2, h3⟩; go_simp; rfl); exact hS0; simp only [List.setIfInBounds_toArray, List.set_cons_succ, List.set_cons_zero]
    (apply reg_take 6 rfl rfl (by decide +kernel) rfl); (rintro w' ⟨h1, h2, h3⟩; go_simp; rfl); exact hS0; simp only [List.setIfInBounds_toArray, List.set_cons_succ, List.set_cons_zero]
    (apply reg_take 7 rfl rfl (by decide +kernel) rfl); (rintro w' ⟨h1, h2, h3⟩; go_simp; rfl); exact hS0; simp only [List.setIfInBounds_toArray, List.set_cons_succ, List.set_cons_zero]
    (apply reg_take 8 rfl rfl (by decide +kernel) rfl); (rintro w' ⟨h1, h2, h3⟩; go_simp; rfl); exact hS0; simp only [List.setIfInBounds_toArray, List.set_cons_succ, List.set_cons_zero]
    refine reg_call 9 rfl rfl (by decide +kernel) rfl (R := fun v w' => v = .int .i64 rd.2 ∧ Hid (Same w3 w' ∧ Sat w' (refD RT q rd.1 * rshX p S (.slice (some ⟨g, 0, none⟩) n capb) vs vi ps qs R (pts B (.cells #[.int .i64 (k : Int), .int .i64 ar, .int .i64 ix] TPl (0, 0)) * F)))) (by kernel_rfl) ((HRE.out q _ w3.drew HQ.out.drew).mono fun e w' h => ⟨_, h.1, rfl, (Same.refl w3).drew.trans h.2.out.1, h.2.out.2⟩) ?_
    rintro _ w5 ⟨rfl, h5⟩
    simp only [List.setIfInBounds_toArray, List.set_cons_succ, List.set_cons_zero]
    have h6 := h5.out.2
    rw [← HN.out, ← rshO_eq] at h6
    have h7 := rsh_disk HO.out (HWF.out.setDisk HST0.out HDN.out) h6
    have hS5 : w5.cell? ⟨p, 6, none⟩ = some (.slice (some ⟨g, 0, none⟩) n capb) ∧ w5.cell? ⟨g, k, none⟩ = some (.pointer (some ⟨q, 0, none⟩)) ∧ w5.cell? ⟨B, 0, none⟩ = some (.int .i64 (k : Int)) := by
      obtain ⟨g', capb', e, c6, cq, -⟩ := rsh_bays HO.out h6
      cases e
      rw [HN.out] at c6
      exact ⟨c6, cq, cells_at (h7.perm (show _ = pts B (.cells #[.int .i64 (k : Int), .int .i64 ar, .int .i64 ix] TPl (0, 0)) * (rshAt RS p (S.setDisk k rd.1) * F) from by ac_rfl)).block 0⟩
    refine ⟨hS5, ?_⟩
    (apply reg_take 10 rfl rfl (by decide +kernel) rfl); (rintro w' ⟨h1, h2, h3⟩; go_simp; rfl); exact hS5; simp only [List.setIfInBounds_toArray, List.set_cons_succ, List.set_cons_zero]
    refine reg_done (by decide +kernel) ?_
    have HE := Lib.hid (And.intro h5.out.1 (h7.perm (show _ = pts B (.cells #[.int .i64 (k : Int), .int .i64 ar, .int .i64 ix] TPl (0, 0)) * (rshAt RS p (S.setDisk k rd.1) * F) from by ac_rfl)).right)
    clear hS0 hS5 h6 h7
    go_wp2
    go_ret
    exact ⟨rfl, H3.out.1.trans HE.out.1, HE.out.2⟩
end Go.Proofs.YtogmkbhbmmgidaaGreat
end
section
namespace Go.Proofs.YtogmkbhbmmgidaaGreat
open Go.RowKit Go.Sl Go.ChangeMaps
def bitU (k : Nat) : UInt8 := 1 <<< UInt8.ofNat k
theorem bitU_step {k : Nat} (h : k < 7) : 2 * ((bitU k).toNat : Int) % 256 = ((bitU (k + 1)).toNat : Int) := by
  rcases (show k = 0 ∨ k = 1 ∨ k = 2 ∨ k = 3 ∨ k = 4 ∨ k = 5 ∨ k = 6 by omega) with rfl | rfl | rfl | rfl | rfl | rfl | rfl <;> decide
theorem flip_len (l : List UInt8) (m : Nat) : (DiskM.flip l m).length = l.length := by unfold DiskM.flip; rw [List.length_set]
theorem bytesL_flip {l : List UInt8} {m : Nat} {y : UInt8} (hy : l[m / 8]? = some y) : (bytesL l).set (m / 8) (.int .u8 ((y ^^^ bitU (m % 8)).toNat : Int)) = bytesL (DiskM.flip l m) := by
  unfold bytesL DiskM.flip
  rw [List.map_set, List.getD_eq_getElem?_getD, hy]; rfl
structure TuSt2 (W : World) (m : Nat) (v i : Value) (wr : World) : Prop where
  st : wr = W ∧ ∃ k : Nat, k ≤ m ∧ i = .int .i64 (k : Int) ∧ v = .int .u8 ((bitU k).toNat : Int)
set_option maxRecDepth 20000 in
set_option maxHeartbeats 4000000 in
theorem rturn_any (vb : Value) (l : List UInt8) (m : Nat) (X : HProp) (w : World) (hX : Sat w X) (hb : ∃ R, Sat w (rowB TU8 vb l * R)) (hl : l.length = 64) (hm : m < 512) :
    Calls Tryz.prog 99 #[vb, .int .i64 (m : Int)] w fun e w' => ∃ v, e = .returned v ∧ Hid (Same w w' ∧ Sat w' (rowB TU8 v (DiskM.flip l m) * X)) := by
  obtain ⟨R, hb⟩ := hb
  obtain ⟨ao, cap, rfl, hc⟩ := bytes_cells hb
  obtain ⟨gb, rfl, ⟨hgb, hcap⟩, hcell⟩ := hc (by intro h; rw [h] at hl; simp at hl)
  have HB := Lib.hid hcell
  have HX := Lib.hid hX
  have HL := Lib.hid hl
  rw [hl]
  obtain ⟨y, hy⟩ : ∃ y, l[m / 8]? = some y := ⟨_, List.getElem?_eq_getElem (by omega)⟩
  have HY := Lib.hid hy
  have hq : wrap64 ((m : Int).tdiv 8) = ((m / 8 : Nat) : Int) := by rw [Int.tdiv_eq_ediv_of_nonneg (by omega)]; unfold wrap64; omega
  have hr : (m : Int).tmod 8 = ((m % 8 : Nat) : Int) := by rw [Int.tmod_eq_emod_of_nonneg (by omega)]; omega
  have hxr : bits .xor .u8 (y.toNat : Int) ((bitU (m % 8)).toNat : Int) = ((y ^^^ bitU (m % 8)).toNat : Int) := by rw [u8_xor_nat y.toNat (bitU (m % 8)).toNat y.toNat_lt (bitU (m % 8)).toNat_lt]; simp
  have HXR := Lib.hid hxr
  have hm8 : m / 8 < 64 := by omega
  have hmr : m % 8 ≤ 7 := by omega
  obtain ⟨q, hqq⟩ : ∃ q, m / 8 = q := ⟨_, rfl⟩
  obtain ⟨r, hrr⟩ : ∃ r, m % 8 = r := ⟨_, rfl⟩
  have HQ := Lib.hid hqq
  have HR := Lib.hid hrr
  rw [hqq] at hq hm8
  rw [hrr] at hr HXR hmr
  clear hxr
  obtain ⟨mi, hmi⟩ : ∃ mi : Int, (m : Int) = mi := ⟨_, rfl⟩
  rw [hmi] at hq hr ⊢
  clear hX hb hc hcell hy hqq hrr hm hmi hl
  obtain ⟨ti, hti, hz0, hts, hz2⟩ := info_parts info_u8
  go_enter Tryz.func99, Tryz.ntmps99
  go_upto_region 3 with (at_builtin; refine wpList_append_ownAt rfl _ _ 51 TU8 rfl ti _ Tryz.underlying51 hti hz0 hts hz2 rfl (ownAt_nil.2 HX.out) (bytesL l) rfl rfl (by rw [bytesL_len, HL.out]) (by intro j u hu; obtain ⟨hj, rfl⟩ := bytesL_at hu; rw [Addr.add_mid, Nat.zero_add]; exact HB.out j hj) (bytesL_one _) (by unfold maxLen; omega) (by omega) ?_; intro v1 w1 h1)
  have H1 := Lib.hid (show Same w w1 ∧ Sat w1 (ownAt TU8 1 v1 64 (bytesL l) * X) from by have h := h1.out; rw [List.nil_append, Nat.zero_add] at h; exact h)
  obtain ⟨g1, cp1, rfl, hc1⟩ := ownAt_cells H1.out.2 (by decide)
  have c1 : w1.cell? ⟨g1, q, none⟩ = some (.int .u8 (y.toNat : Int)) := hc1 q _ (by have := HY.out; rw [HQ.out] at this; unfold bytesL; rw [List.getElem?_map, this]; rfl)
  have f1 : w1.frozen? ⟨g1, q, none⟩ = false := by
    obtain ⟨g', cp', cur, e, _, _, hf, _, _⟩ := ownAt_block H1.out.2 (by decide)
    simp only [Value.slice.injEq, Option.some.injEq, Addr.mk.injEq] at e
    rw [e.1.1]; exact hf q
  clear h1 hc1 hti hz0 hts hz2
  have hqi : (q : Int) < 64 := by omega
  have hq0 : (0 : Int) ≤ (q : Int) := by omega
  have hr7 : (r : Int) ≤ 7 := by omega
  go_upto_region 5 with (fail)
  go_loopw [6, 7] (fun v i wr => TuSt2 w1 r v i wr) (fun _ i _ => r - (intOf i).toNat)
  case atStart => exact ⟨rfl, 0, Nat.zero_le _, rfl, congrArg (Value.int .u8) (show (1 : Int) = ((bitU 0).toNat : Int) from by decide)⟩
  case round =>
    obtain ⟨rfl, k, hk, rfl, rfl⟩ := hrel.st
    clear hrel
    by_cases hlt : k < r
    · have hltd : decide (k < r) = true := decide_eq_true hlt
      have hst := bitU_step (k := k) (by omega)
      have hw1 : IntKind.i64.wrap ((k : Int) + 1) = (k : Int) + 1 := IntWalk.i64_in _ (by omega)
      have HK := Lib.hid (And.intro hlt hst)
      clear hk hlt
      go_wp2
      go_roundw
      case rel => exact ⟨⟨rfl, k + 1, HK.out.1, rfl, by first | rfl | exact congrArg (Value.int .u8) HK.out.2⟩⟩
      case measure => have := HK.out.1; simp only [intOf]; omega
    · obtain rfl : k = r := by omega
      have hltd : decide (k < k) = false := decide_eq_false (by omega)
      clear hlt hk
      go_wp2
      go_ret
      rw [HXR.out]
      refine ⟨_, rfl, H1.out.1.setCell _ _, ?_⟩
      have h := ownAt_set H1.out.2 (by decide) rfl (j := q) (.int .u8 ((y ^^^ bitU k).toNat : Int))
      have hy := HY.out
      have e := bytesL_flip hy
      rw [HQ.out, HR.out] at e
      rw [e] at h
      have hfl : 64 = (DiskM.flip l m).length := by rw [flip_len, HL.out]
      have h2 : Sat _ (rowB TU8 (.slice (some ⟨g1, 0, none⟩) 64 cp1) (DiskM.flip l m) * X) := rowB_own (by rw [← hfl]; exact h)
      exact h2
end Go.Proofs.YtogmkbhbmmgidaaGreat
end
