import Derived.Test.YtogmkbhbmmgidaaGreatP25
import Derived.Test.YtogmkbhbmmgidaaGreatP23
/- Part 30 of a proof; the last part says what is proved. -/
section
namespace Go.Proofs.YtogmkbhbmmgidaaGreat
open Go.RowKit Go.Sl Go.ChangeMaps
theorem write_ok17 (D : DiskM) (i : Int) (s : List UInt8) (h : D.has i = true) (hs : s.length = 64) : (D.write i s).2 = 0 := by
  unfold DiskM.write
  split
  · rfl
  · rename_i hn; exact absurd (by simp [h, hs]) hn
set_option maxRecDepth 20000 in
set_option maxHeartbeats 4000000 in
theorem rwrite17_any (p : Nat) (S : ShelfM) (F : HProp) (a : PlaceM) (s : List UInt8) (w : World) (hS : Sat w (rshAt RS p S * F)) :
    Calls Tryz.prog 37 #[.pointer (some ⟨p, 0, none⟩), .agg (plA a), .string (strW s)] w fun e w' => e = .returned (.int .i64 (S.write a s).2) ∧ Hid (Same w w' ∧ Sat w' (rshAt RS p (S.write a s).1 * F)) := by
  have hwf := rshAt_wf hS
  obtain ⟨d, ar, ix⟩ := a
  have HA := Lib.hid (show Same w (w.alloc (.cells (plA ⟨d, ar, ix⟩) TPl)) ∧ Sat (w.alloc (.cells (plA ⟨d, ar, ix⟩) TPl)) (rshAt RS p S * (pts w.heap.size (.cells (plA ⟨d, ar, ix⟩) TPl (0, 0)) * F)) from ⟨(Same.refl w).alloc _, (hS.alloc (.cells (plA ⟨d, ar, ix⟩) TPl)).perm (by ac_rfl)⟩)
  have HNB := Lib.hid (fun G W (h : Sat W (rshAt RS p S * G)) => rnumber_any p S G ⟨d, ar, ix⟩ W h)
  have hsz : (strW s).size = s.length := by unfold strW; simp [ByteArray.size]
  have hwr : S.write ⟨d, ar, ix⟩ s = if S.number ⟨d, ar, ix⟩ < 0 ∨ s.length ≠ 64 then (S, 1) else S.step d fun D => (D.write (S.number ⟨d, ar, ix⟩) s).1 := rfl
  clear hS
  by_cases hn : S.number ⟨d, ar, ix⟩ < 0
  · rw [if_pos (.inl hn)] at hwr
    rw [hwr]
    rw [show numM S ⟨d, ar, ix⟩ = 0 by unfold numM; rw [if_pos hn], decide_eq_false (by omega : ¬ 0 ≤ S.number ⟨d, ar, ix⟩)] at HNB
    clear hwr hn hwf
    generalize strW s = ss at *
    go_enter Tryz.func37, Tryz.ntmps37
    go_upto_region 1 with (fail)
    unfold plA at HA
    generalize w.alloc _ = W1 at HA ⊢
    generalize w.heap.size = B at HA ⊢
    have hbx := HA.out.2.perm (show _ = pts B (.cells #[.int .i64 d, .int .i64 ar, .int .i64 ix] TPl (0, 0)) * (rshAt RS p S * F) from by ac_rfl)
    have b0 : W1.cell? ⟨B, 0, none⟩ = some (.int .i64 d) := cells_at hbx.block 0
    have b1 : W1.cell? ⟨B, 1, none⟩ = some (.int .i64 ar) := cells_at hbx.block 1
    have b2 : W1.cell? ⟨B, 2, none⟩ = some (.int .i64 ix) := cells_at hbx.block 2
    clear hbx
    go_wp2_with (first
      | (go_at_call 81; refine (HNB.out _ W1 HA.out.2).mono ?_; rintro e w2 ⟨rfl, hb⟩; clear b0 b1 b2; have H2 := Lib.hid (And.intro (HA.out.1.below hb) (HA.out.2.below hb)); clear hb; have b0 : w2.cell? ⟨B, 0, none⟩ = some (.int .i64 d) := cells_at (H2.out.2.perm (show _ = pts B (.cells #[.int .i64 d, .int .i64 ar, .int .i64 ix] TPl (0, 0)) * (rshAt RS p S * F) from by ac_rfl)).block 0))
    go_ret
    exact ⟨rfl, H2.out.1, (H2.out.2.perm (show _ = pts B (.cells #[.int .i64 d, .int .i64 ar, .int .i64 ix] TPl (0, 0)) * (rshAt RS p S * F) from by ac_rfl)).right⟩
  have hnm : numM S ⟨d, ar, ix⟩ = S.number ⟨d, ar, ix⟩ := by unfold numM; rw [if_neg hn]
  rw [hnm, decide_eq_true (by omega : 0 ≤ S.number ⟨d, ar, ix⟩)] at HNB
  by_cases hl : s.length = 64
  case neg =>
    rw [if_pos (.inr hl)] at hwr
    rw [hwr]
    have hne : ((s.length : Int) != 64) = true := by simp; omega
    generalize S.number ⟨d, ar, ix⟩ = nu at HNB
    clear hwr hn hwf hl hnm
    generalize strW s = ss at *
    go_enter Tryz.func37, Tryz.ntmps37
    go_upto_region 1 with (fail)
    unfold plA at HA
    generalize w.alloc _ = W1 at HA ⊢
    generalize w.heap.size = B at HA ⊢
    have hbx := HA.out.2.perm (show _ = pts B (.cells #[.int .i64 d, .int .i64 ar, .int .i64 ix] TPl (0, 0)) * (rshAt RS p S * F) from by ac_rfl)
    have b0 : W1.cell? ⟨B, 0, none⟩ = some (.int .i64 d) := cells_at hbx.block 0
    have b1 : W1.cell? ⟨B, 1, none⟩ = some (.int .i64 ar) := cells_at hbx.block 1
    have b2 : W1.cell? ⟨B, 2, none⟩ = some (.int .i64 ix) := cells_at hbx.block 2
    clear hbx
    go_wp2_with (first
      | (go_at_call 81; refine (HNB.out _ W1 HA.out.2).mono ?_; rintro e w2 ⟨rfl, hb⟩; clear b0 b1 b2; have H2 := Lib.hid (And.intro (HA.out.1.below hb) (HA.out.2.below hb)); clear hb; have b0 : w2.cell? ⟨B, 0, none⟩ = some (.int .i64 d) := cells_at (H2.out.2.perm (show _ = pts B (.cells #[.int .i64 d, .int .i64 ar, .int .i64 ix] TPl (0, 0)) * (rshAt RS p S * F) from by ac_rfl)).block 0))
    go_ret
    exact ⟨rfl, H2.out.1, (H2.out.2.perm (show _ = pts B (.cells #[.int .i64 d, .int .i64 ar, .int .i64 ix] TPl (0, 0)) * (rshAt RS p S * F) from by ac_rfl)).right⟩
  have hne : ((s.length : Int) != 64) = false := by simp [hl]
  rw [if_neg (by intro h; rcases h with h | h; exact hn h; exact h hl)] at hwr
  have hlt := ShelfM.number_lt hwf (a := ⟨d, ar, ix⟩) (by omega)
  dsimp only at hlt
  obtain ⟨hd0, hd1⟩ := ShelfM.state_in hwf hlt.1
  obtain ⟨k, rfl⟩ := Int.eq_ofNat_of_zero_le hd0
  have hkb : k < S.bays.length := by omega
  have HRD := Lib.hid (fun G W (h : Sat W (rshAt RS p S * G)) => rready_any p S G k hkb W h)
  have HST0 := Lib.hid hlt.1
  have HLT := Lib.hid hlt.2.2.2.2.2.2
  have HWF0 := Lib.hid hwf
  obtain ⟨nu, hnu⟩ : ∃ nu, nu = S.number ⟨(k : Int), ar, ix⟩ := ⟨_, rfl⟩
  rw [← hnu] at HNB hwr HLT hn
  have HNU := Lib.hid hn
  have HL := Lib.hid hl
  clear hnu hnm hlt hd0 hd1 hwf hn hl
  by_cases ha : S.access (k : Int) = 0
  case neg =>
    rw [hwr, ShelfM.step_acc _ ha]
    have e1 : (S.access (k : Int) != 0) = true := by simp [ha]
    clear hwr ha hkb HST0 HLT HWF0
    generalize S.access (k : Int) = ac at *
    generalize strW s = ss at *
    go_enter Tryz.func37, Tryz.ntmps37
    go_upto_region 1 with (fail)
    unfold plA at HA
    generalize w.alloc _ = W1 at HA ⊢
    generalize w.heap.size = B at HA ⊢
    have hbx := HA.out.2.perm (show _ = pts B (.cells #[.int .i64 (k : Int), .int .i64 ar, .int .i64 ix] TPl (0, 0)) * (rshAt RS p S * F) from by ac_rfl)
    have b0 : W1.cell? ⟨B, 0, none⟩ = some (.int .i64 (k : Int)) := cells_at hbx.block 0
    have b1 : W1.cell? ⟨B, 1, none⟩ = some (.int .i64 ar) := cells_at hbx.block 1
    have b2 : W1.cell? ⟨B, 2, none⟩ = some (.int .i64 ix) := cells_at hbx.block 2
    clear hbx
    go_wp2_with (first
      | (go_at_call 81; refine (HNB.out _ W1 HA.out.2).mono ?_; rintro e w2 ⟨rfl, hb⟩; clear b0 b1 b2; have H2 := Lib.hid (And.intro (HA.out.1.below hb) (HA.out.2.below hb)); clear hb; have b0 : w2.cell? ⟨B, 0, none⟩ = some (.int .i64 (k : Int)) := cells_at (H2.out.2.perm (show _ = pts B (.cells #[.int .i64 (k : Int), .int .i64 ar, .int .i64 ix] TPl (0, 0)) * (rshAt RS p S * F) from by ac_rfl)).block 0)
      | (go_at_call 82; refine (HRD.out _ w2 H2.out.2).mono ?_; rintro e w3 ⟨rfl, rfl⟩))
    go_ret
    exact ⟨rfl, H2.out.1, (H2.out.2.perm (show _ = pts B (.cells #[.int .i64 (k : Int), .int .i64 ar, .int .i64 ix] TPl (0, 0)) * (rshAt RS p S * F) from by ac_rfl)).right⟩
  case pos =>
    have hac := ha
    rw [ha] at HRD
    rw [hwr, ShelfM.step_tick _ ha]
    have HTK := Lib.hid (fun G W (h : Sat W (rshAt RS p S * G)) => rstep_any p S G W h)
    obtain ⟨hb1, -, -⟩ := S.tick_bays
    obtain ⟨hs1, hs2⟩ := S.tick_bay (k : Int)
    have HWF := Lib.hid (ShelfM.tick_wf HWF0.out)
    have HB := Lib.hid (And.intro hb1 (And.intro hs1 hs2))
    have h1 : S.state (k : Int) = 1 := by
      unfold ShelfM.access at hac
      split at hac
      · cases hac
      · split at hac
        · assumption
        · cases hac
    have HDN := Lib.hid (ShelfM.disk_n HWF0.out h1)
    clear hwr ha hac hb1 hs1 hs2 h1
    by_cases ht : S.tick.2 = 0
    case neg =>
      rw [if_neg ht]
      have e1 : (S.tick.2 != 0) = true := by simp [ht]
      clear ht hkb HST0 HLT HWF0 HWF HB HDN
      generalize S.tick.2 = tk at *
      generalize S.tick.1 = S1 at *
      generalize strW s = ss at *
      go_enter Tryz.func37, Tryz.ntmps37
      go_upto_region 1 with (fail)
      unfold plA at HA
      generalize w.alloc _ = W1 at HA ⊢
      generalize w.heap.size = B at HA ⊢
      have hbx := HA.out.2.perm (show _ = pts B (.cells #[.int .i64 (k : Int), .int .i64 ar, .int .i64 ix] TPl (0, 0)) * (rshAt RS p S * F) from by ac_rfl)
      have b0 : W1.cell? ⟨B, 0, none⟩ = some (.int .i64 (k : Int)) := cells_at hbx.block 0
      have b1 : W1.cell? ⟨B, 1, none⟩ = some (.int .i64 ar) := cells_at hbx.block 1
      have b2 : W1.cell? ⟨B, 2, none⟩ = some (.int .i64 ix) := cells_at hbx.block 2
      clear hbx
      go_wp2_with (first
        | (go_at_call 81; refine (HNB.out _ W1 HA.out.2).mono ?_; rintro e w2 ⟨rfl, hb⟩; clear b0 b1 b2; have H2 := Lib.hid (And.intro (HA.out.1.below hb) (HA.out.2.below hb)); clear hb; have b0 : w2.cell? ⟨B, 0, none⟩ = some (.int .i64 (k : Int)) := cells_at (H2.out.2.perm (show _ = pts B (.cells #[.int .i64 (k : Int), .int .i64 ar, .int .i64 ix] TPl (0, 0)) * (rshAt RS p S * F) from by ac_rfl)).block 0)
        | (go_at_call 82; refine (HRD.out _ w2 H2.out.2).mono ?_; rintro e w3 ⟨rfl, rfl⟩)
        | (go_at_call 83; refine (HTK.out _ w2 H2.out.2).mono ?_; rintro e w4 ⟨rfl, h4⟩))
      go_ret
      exact ⟨rfl, H2.out.1.trans h4.out.1, (h4.out.2.perm (show _ = pts B (.cells #[.int .i64 (k : Int), .int .i64 ar, .int .i64 ix] TPl (0, 0)) * (rshAt RS p S1 * F) from by ac_rfl)).right⟩
    case pos =>
      rw [if_pos ht]
      rw [ht] at HTK
      have HK := Lib.hid hkb
      clear ht hkb
      have HDK := Lib.hid HB.out.2.2
      have HHAS := Lib.hid (show (S.disk k).has nu = true by
        have h2 := HLT.out
        have h3 := HDN.out
        have h4 := HNU.out
        unfold DiskM.has
        rw [decide_eq_true (by omega : 0 ≤ nu), decide_eq_true (by omega : nu < ((S.disk k).n : Int))]; rfl)
      go_enter Tryz.func37, Tryz.ntmps37
      go_upto_region 1 with (fail)
      unfold plA at HA
      generalize w.alloc _ = W1 at HA ⊢
      generalize w.heap.size = B at HA ⊢
      have hbx := HA.out.2.perm (show _ = pts B (.cells #[.int .i64 (k : Int), .int .i64 ar, .int .i64 ix] TPl (0, 0)) * (rshAt RS p S * F) from by ac_rfl)
      have b0 : W1.cell? ⟨B, 0, none⟩ = some (.int .i64 (k : Int)) := cells_at hbx.block 0
      have b1 : W1.cell? ⟨B, 1, none⟩ = some (.int .i64 ar) := cells_at hbx.block 1
      have b2 : W1.cell? ⟨B, 2, none⟩ = some (.int .i64 ix) := cells_at hbx.block 2
      clear hbx
      go_upto_region 10 with (first
        | (go_at_call 81; refine (HNB.out _ W1 HA.out.2).mono ?_; rintro e w2 ⟨rfl, hb⟩; clear b0 b1 b2; have H2 := Lib.hid (And.intro (HA.out.1.below hb) (HA.out.2.below hb)); clear hb; have b0 : w2.cell? ⟨B, 0, none⟩ = some (.int .i64 (k : Int)) := cells_at (H2.out.2.perm (show _ = pts B (.cells #[.int .i64 (k : Int), .int .i64 ar, .int .i64 ix] TPl (0, 0)) * (rshAt RS p S * F) from by ac_rfl)).block 0)
        | (go_at_call 82; refine (HRD.out _ w2 H2.out.2).mono ?_; rintro e w3 ⟨rfl, rfl⟩)
        | (go_at_call 83; refine (HTK.out _ w2 H2.out.2).mono ?_; rintro e w4 ⟨rfl, h4⟩; clear b0))
      have hs4 := h4.out.2
      obtain ⟨vb, vs, vi, ps, qs, q, R, ho, hs⟩ := rsh_open hs4 (k := k) (by rw [HB.out.1]; exact HK.out)
      obtain ⟨g, capb, rfl, c6, cq, -⟩ := rsh_bays ho hs
      have b0 : w4.cell? ⟨B, 0, none⟩ = some (.int .i64 (k : Int)) := cells_at (hs4.perm (show _ = pts B (.cells #[.int .i64 (k : Int), .int .i64 ar, .int .i64 ix] TPl (0, 0)) * (rshAt RS p S.tick.1 * F) from by ac_rfl)).block 0
      have HO := Lib.hid ho
      rw [rshO_eq] at hs
      have hkn : (k : Int) < (S.tick.1.bays.length : Int) := by rw [HB.out.1]; have := HK.out; omega
      obtain ⟨n, hn⟩ : ∃ n, S.tick.1.bays.length = n := ⟨_, rfl⟩
      rw [hn] at hkn c6 hs
      have HN := Lib.hid hn
      have HQ := Lib.hid hs
      have hk0 : (0 : Int) ≤ (k : Int) := by omega
      clear hs4 ho hs hn
      have hS0 : w4.drew.cell? ⟨p, 6, none⟩ = some (.slice (some ⟨g, 0, none⟩) n capb) ∧ w4.drew.cell? ⟨g, k, none⟩ = some (.pointer (some ⟨q, 0, none⟩)) ∧ w4.drew.cell? ⟨B, 0, none⟩ = some (.int .i64 (k : Int)) := ⟨c6, cq, b0⟩
      refine reg_begin (fun w' => w'.cell? ⟨p, 6, none⟩ = some (.slice (some ⟨g, 0, none⟩) n capb) ∧ w'.cell? ⟨g, k, none⟩ = some (.pointer (some ⟨q, 0, none⟩)) ∧ w'.cell? ⟨B, 0, none⟩ = some (.int .i64 (k : Int))) (by kernel_rfl) ?_
      clear c6 cq b0
      (apply reg_take 0 rfl rfl (by decide +kernel) rfl); (rintro w' ⟨h1, h2, h3⟩; go_simp; rfl); exact hS0; simp only [List.setIfInBounds_toArray, List.set_cons_succ, List.set_cons_zero]
      (apply reg_take 1 rfl rfl (by decide +kernel) rfl); (rintro w' ⟨h1, h2, h3⟩; go_simp; rfl); exact hS0; simp only [List.setIfInBounds_toArray, List.set_cons_succ, List.set_cons_zero]
      (apply reg_take 2 rfl rfl (by decide +kernel) rfl); (rintro w' ⟨h1, h2, h3⟩; go_simp; rfl); exact hS0; simp only [List.setIfInBounds_toArray, List.set_cons_succ, List.set_cons_zero]
      (apply reg_take 3 rfl rfl (by decide +kernel) rfl); (rintro w' ⟨h1, h2, h3⟩; go_simp; rfl); exact hS0; simp only [List.setIfInBounds_toArray, List.set_cons_succ, List.set_cons_zero]
      (apply reg_take 4 rfl rfl (by decide +kernel) rfl); (rintro w' ⟨h1, h2, h3⟩; go_simp; rfl); exact hS0; simp only [List.setIfInBounds_toArray, List.set_cons_succ, List.set_cons_zero]
      (apply reg_take 5 rfl rfl (by decide +kernel) rfl); (rintro w' ⟨h1, h2, h3⟩; go_simp; rfl); exact hS0; simp only [List.setIfInBounds_toArray, List.set_cons_succ, List.set_cons_zero]
      (apply reg_take 6 rfl rfl (by decide +kernel) rfl); (rintro w' ⟨h1, h2, h3⟩; go_simp; rfl); exact hS0; simp only [List.setIfInBounds_toArray, List.set_cons_succ, List.set_cons_zero]
      (apply reg_take 7 rfl rfl (by decide +kernel) rfl); (rintro w' ⟨h1, h2, h3⟩; go_simp; rfl); exact hS0; simp only [List.setIfInBounds_toArray, List.set_cons_succ, List.set_cons_zero]
      (apply reg_take 8 rfl rfl (by decide +kernel) rfl); (rintro w' ⟨h1, h2, h3⟩; go_simp; rfl); exact hS0; simp only [List.setIfInBounds_toArray, List.set_cons_succ, List.set_cons_zero]
      (apply reg_take 9 rfl rfl (by decide +kernel) rfl); (rintro w' ⟨h1, h2, h3⟩; go_simp; rfl); exact hS0; simp only [List.setIfInBounds_toArray, List.set_cons_succ, List.set_cons_zero]
      refine reg_call 10 rfl rfl (by decide +kernel) rfl (R := fun v w' => v = .int .i64 0 ∧ Hid (Same w4 w' ∧ Sat w' (refD RT q ((S.disk k).write nu s).1 * rshX p S.tick.1 (.slice (some ⟨g, 0, none⟩) n capb) vs vi ps qs R (pts B (.cells #[.int .i64 (k : Int), .int .i64 ar, .int .i64 ix] TPl (0, 0)) * F)))) (by kernel_rfl) ((rwrite_any q _ _ nu s w4.drew HQ.out.drew).mono fun e w' h => ⟨_, h.1, by rw [HDK.out, write_ok17 _ _ _ HHAS.out HL.out], by have h8 := h.2.out; rw [HDK.out] at h8; exact ⟨(Same.refl w4).drew.trans h8.1, h8.2⟩⟩) ?_
      rintro _ w5 ⟨rfl, h5⟩
      simp only [List.setIfInBounds_toArray, List.set_cons_succ, List.set_cons_zero]
      have h6 := h5.out.2
      rw [← HN.out, ← rshO_eq] at h6
      have h7 := rsh_disk HO.out (HWF.out.setDisk (by rw [HB.out.2.1]; exact HST0.out) (by rw [HDK.out]; exact DiskM.write_n _ _ _)) h6
      have hS5 : w5.cell? ⟨p, 6, none⟩ = some (.slice (some ⟨g, 0, none⟩) n capb) ∧ w5.cell? ⟨g, k, none⟩ = some (.pointer (some ⟨q, 0, none⟩)) ∧ w5.cell? ⟨B, 0, none⟩ = some (.int .i64 (k : Int)) := by
        obtain ⟨g', capb', e, c6, cq, -⟩ := rsh_bays HO.out h6
        cases e
        rw [HN.out] at c6
        exact ⟨c6, cq, cells_at (h7.perm (show _ = pts B (.cells #[.int .i64 (k : Int), .int .i64 ar, .int .i64 ix] TPl (0, 0)) * (rshAt RS p (S.tick.1.setDisk k ((S.disk k).write nu s).1) * F) from by ac_rfl)).block 0⟩
      refine ⟨hS5, ?_⟩
      (apply reg_take 11 rfl rfl (by decide +kernel) rfl); (rintro w' ⟨h1, h2, h3⟩; go_simp; rfl); exact hS5; simp only [List.setIfInBounds_toArray, List.set_cons_succ, List.set_cons_zero]
      refine reg_done (by decide +kernel) ?_
      have HE := Lib.hid (And.intro h5.out.1 (h7.perm (show _ = pts B (.cells #[.int .i64 (k : Int), .int .i64 ar, .int .i64 ix] TPl (0, 0)) * (rshAt RS p (S.tick.1.setDisk k ((S.disk k).write nu s).1) * F) from by ac_rfl)).right)
      clear hS0 hS5 h6 h7
      go_wp2
      go_ret
      exact ⟨rfl, (H2.out.1.trans h4.out.1).trans HE.out.1, HE.out.2⟩
end Go.Proofs.YtogmkbhbmmgidaaGreat
end
section
namespace Go.Proofs.YtogmkbhbmmgidaaGreat
open Go.RowKit Go.Sl Go.ChangeMaps
structure RfaSt (w : World) (p : Nat) (Z : ShelfM × Int) (F : HProp) (n : Nat) (i : Value) (wr : World) : Prop where
  st : ∃ (k : Nat) (S' : ShelfM), k ≤ n ∧ i = .int .i64 (k : Int) ∧ S'.bays.length = n ∧ Z = S'.flushFrom k (n - k) ∧ Same w wr ∧ Sat wr (rshAt RS p S' * F)
set_option maxHeartbeats 2000000 in
theorem rflushAll_any (p : Nat) (S : ShelfM) (F : HProp) (w : World) (hS : Sat w (rshAt RS p S * F)) :
    Calls Tryz.prog 40 #[.pointer (some ⟨p, 0, none⟩)] w fun e w' => e = .returned (.int .i64 S.flushAll.2) ∧ Hid (Same w w' ∧ Sat w' (rshAt RS p S.flushAll.1 * F)) := by
  have hwf := rshAt_wf hS
  have hn0 : 0 < S.bays.length := by rw [hwf.bays]; have := hwf.cfg.disks; omega
  have hn64 : S.bays.length ≤ 64 := by rw [hwf.bays]; have := hwf.cfg.disks; omega
  obtain ⟨_, c9, _⟩ := rsh_cfg hS
  have hfa : S.flushAll = if S.off then (S, 14) else S.flushFrom 0 S.bays.length := rfl
  have HS := Lib.hid hS
  obtain ⟨n, hn⟩ : ∃ n, S.bays.length = n := ⟨_, rfl⟩
  rw [hn] at hn0 hn64 hfa
  have HN := Lib.hid hn
  clear hn hwf hS
  cases ho : S.off with
  | true =>
    rw [ho] at c9 hfa
    rw [hfa, if_pos rfl]
    clear hfa ho
    go_enter Tryz.func40, Tryz.ntmps40
    go_wp2
    go_ret
    exact ⟨rfl, Same.refl w, HS.out⟩
  | false =>
    rw [ho] at c9 hfa
    rw [if_neg (by decide)] at hfa
    obtain ⟨Z, hZ⟩ : ∃ Z, Z = S.flushFrom 0 n := ⟨_, rfl⟩
    rw [← hZ] at hfa
    rw [hfa]
    have H0 := Lib.hid (show RfaSt w p Z F n (.int .i64 0) w from ⟨0, S, Nat.zero_le _, rfl, HN.out, hZ, Same.refl w, HS.out⟩)
    clear hfa ho hZ HS
    go_enter Tryz.func40, Tryz.ntmps40
    go_upto_region 4 with (fail)
    clear c9
    go_loopw [3, 4] (fun i _ wr => RfaSt w p Z F n i wr) (fun i _ _ => n - (intOf i).toNat)
    case atStart => exact H0.out
    case round =>
      clear H0
      obtain ⟨k, S', hk, rfl, hlen, hff, hsm, hst⟩ := hrel.st
      clear hrel
      have hk64 : (k : Int) ≤ 64 := by omega
      have hwk : IntKind.i64.wrap ((k : Int) + 1) = (k : Int) + 1 := IntWalk.i64_in _ (by omega)
      by_cases hlt : k < n
      · have hltd : decide ((k : Int) < (n : Int)) = true := decide_eq_true (by omega)
        have hkn : (k : Int) < (n : Int) := by omega
        have hk0 : (0 : Int) ≤ (k : Int) := by omega
        obtain ⟨g, capb, gs, caps, q, R, ⟨c6, c7⟩, ⟨_, cs⟩, _⟩ := rsh_bay hst (k := k) (by omega)
        rw [hlen] at c6 c7
        have hstep := ShelfM.flushFrom_lt S' k n hlt
        by_cases h1 : S'.state k = 1
        · rw [h1] at cs
          rw [if_neg (by simp [h1])] at hstep
          have HFL := Lib.hid (rflush17_any p S' F k wr hst)
          by_cases he : (S'.flush k).2 = 0
          · rw [if_neg (by simp [he])] at hstep
            rw [he] at HFL
            have HH := Lib.hid (And.intro hsm (And.intro (hff.trans hstep) (show (S'.flush k).1.bays.length = n by rw [ShelfM.flush_len]; exact hlen)))
            generalize (S'.flush k).1 = S2 at HFL HH
            clear hsm hff hstep he hst h1 hlen
            go_wp2_with (go_at_call 39; refine HFL.out.mono ?_; rintro e w2 ⟨rfl, h2⟩)
            go_roundw
            case rel => exact ⟨⟨k + 1, S2, hlt, by push_cast; rfl, HH.out.2.2, HH.out.2.1, HH.out.1.trans h2.out.1, h2.out.2⟩⟩
            case measure => simp only [intOf]; omega
          · rw [if_pos he] at hstep
            have HH := Lib.hid (And.intro hsm (hff.trans hstep))
            have e1 : ((S'.flush k).2 != 0) = true := by simp [he]
            generalize S'.flush k = Y at HFL HH e1
            clear hsm hff hstep he hst h1 hlen
            go_wp2_with (go_at_call 39; refine HFL.out.mono ?_; rintro e w2 ⟨rfl, h2⟩)
            go_ret
            rw [HH.out.2]
            exact ⟨rfl, HH.out.1.trans h2.out.1, h2.out.2⟩
        · rw [if_pos h1] at hstep
          have e1 : (S'.state k != 1) = true := by simp [h1]
          have HH := Lib.hid (show RfaSt w p Z F n (.int .i64 ((k : Int) + 1)) wr from ⟨k + 1, S', hlt, by push_cast; rfl, hlen, hff.trans hstep, hsm, hst⟩)
          generalize S'.state k = st at cs e1
          clear hsm hff hstep hst h1 hlen
          go_wp2
          go_roundw
          case rel => exact HH.out
          case measure => simp only [intOf]; omega
      · have hke : k = n := by omega
        have hltd : decide ((k : Int) < (n : Int)) = false := decide_eq_false (by omega)
        obtain ⟨g, capb, gs, caps, q, R, ⟨c6, c7⟩, ⟨_, cs⟩, _⟩ := rsh_bay hst (k := 0) (by omega)
        rw [hlen] at c6
        have hz : Z = (S', 0) := by rw [hff, hke, Nat.sub_self]; rfl
        have HH := Lib.hid (And.intro hsm hst)
        clear hsm hst hff c7 cs
        go_wp2
        go_ret
        rw [hz]
        exact ⟨rfl, HH.out.1, HH.out.2⟩
end Go.Proofs.YtogmkbhbmmgidaaGreat
end
section
namespace Go.Proofs.YtogmkbhbmmgidaaGreat
open Go.RowKit Go.Sl Go.ChangeMaps
set_option maxRecDepth 20000 in
set_option maxHeartbeats 4000000 in
theorem rread17_any (p : Nat) (S : ShelfM) (F : HProp) (a : PlaceM) (w : World) (hS : Sat w (rshAt RS p S * F)) :
    Calls Tryz.prog 38 #[.pointer (some ⟨p, 0, none⟩), .agg (plA a)] w fun e w' => e = .returned (.tuple #[.string (strW (S.read a).1), .int .i64 (S.read a).2]) ∧ Hid (Same w w' ∧ Sat w' (rshAt RS p S * F)) := by
  have hwf := rshAt_wf hS
  obtain ⟨d, ar, ix⟩ := a
  have HA := Lib.hid (show Same w (w.alloc (.cells (plA ⟨d, ar, ix⟩) TPl)) ∧ Sat (w.alloc (.cells (plA ⟨d, ar, ix⟩) TPl)) (rshAt RS p S * (pts w.heap.size (.cells (plA ⟨d, ar, ix⟩) TPl (0, 0)) * F)) from ⟨(Same.refl w).alloc _, (hS.alloc (.cells (plA ⟨d, ar, ix⟩) TPl)).perm (by ac_rfl)⟩)
  have HNB := Lib.hid (fun G W (h : Sat W (rshAt RS p S * G)) => rnumber_any p S G ⟨d, ar, ix⟩ W h)
  have hwr : S.read ⟨d, ar, ix⟩ = if S.number ⟨d, ar, ix⟩ < 0 then ([], 1) else if S.access d ≠ 0 then ([], S.access d) else (S.disk d).read (S.number ⟨d, ar, ix⟩) := rfl
  clear hS
  by_cases hn : S.number ⟨d, ar, ix⟩ < 0
  · rw [if_pos hn] at hwr
    rw [hwr]
    rw [show numM S ⟨d, ar, ix⟩ = 0 by unfold numM; rw [if_pos hn], decide_eq_false (by omega : ¬ 0 ≤ S.number ⟨d, ar, ix⟩)] at HNB
    clear hwr hn hwf
    go_enter Tryz.func38, Tryz.ntmps38
    go_upto_region 1 with (fail)
    unfold plA at HA
    generalize w.alloc _ = W1 at HA ⊢
    generalize w.heap.size = B at HA ⊢
    have hbx := HA.out.2.perm (show _ = pts B (.cells #[.int .i64 d, .int .i64 ar, .int .i64 ix] TPl (0, 0)) * (rshAt RS p S * F) from by ac_rfl)
    have b0 : W1.cell? ⟨B, 0, none⟩ = some (.int .i64 d) := cells_at hbx.block 0
    have b1 : W1.cell? ⟨B, 1, none⟩ = some (.int .i64 ar) := cells_at hbx.block 1
    have b2 : W1.cell? ⟨B, 2, none⟩ = some (.int .i64 ix) := cells_at hbx.block 2
    clear hbx
    go_wp2_with (first
      | (go_at_call 81; refine (HNB.out _ W1 HA.out.2).mono ?_; rintro e w2 ⟨rfl, hb⟩; clear b0 b1 b2; have H2 := Lib.hid (And.intro (HA.out.1.below hb) (HA.out.2.below hb)); clear hb; have b0 : w2.cell? ⟨B, 0, none⟩ = some (.int .i64 d) := cells_at (H2.out.2.perm (show _ = pts B (.cells #[.int .i64 d, .int .i64 ar, .int .i64 ix] TPl (0, 0)) * (rshAt RS p S * F) from by ac_rfl)).block 0))
    go_ret2
    exact ⟨rfl, H2.out.1, (H2.out.2.perm (show _ = pts B (.cells #[.int .i64 d, .int .i64 ar, .int .i64 ix] TPl (0, 0)) * (rshAt RS p S * F) from by ac_rfl)).right⟩
  have hnm : numM S ⟨d, ar, ix⟩ = S.number ⟨d, ar, ix⟩ := by unfold numM; rw [if_neg hn]
  rw [hnm, decide_eq_true (by omega : 0 ≤ S.number ⟨d, ar, ix⟩)] at HNB
  rw [if_neg hn] at hwr
  have hlt := ShelfM.number_lt hwf (a := ⟨d, ar, ix⟩) (by omega)
  dsimp only at hlt
  obtain ⟨hd0, hd1⟩ := ShelfM.state_in hwf hlt.1
  obtain ⟨k, rfl⟩ := Int.eq_ofNat_of_zero_le hd0
  have hkb : k < S.bays.length := by omega
  have HRD := Lib.hid (fun G W (h : Sat W (rshAt RS p S * G)) => rready_any p S G k hkb W h)
  obtain ⟨nu, hnu⟩ : ∃ nu, nu = S.number ⟨(k : Int), ar, ix⟩ := ⟨_, rfl⟩
  rw [← hnu] at HNB hwr
  clear hnu hnm hlt hd0 hd1 hwf hn
  by_cases ha : S.access (k : Int) = 0
  case neg =>
    rw [if_pos ha] at hwr
    rw [hwr]
    have e1 : (S.access (k : Int) != 0) = true := by simp [ha]
    clear hwr ha hkb
    generalize S.access (k : Int) = ac at *
    go_enter Tryz.func38, Tryz.ntmps38
    go_upto_region 1 with (fail)
    unfold plA at HA
    generalize w.alloc _ = W1 at HA ⊢
    generalize w.heap.size = B at HA ⊢
    have hbx := HA.out.2.perm (show _ = pts B (.cells #[.int .i64 (k : Int), .int .i64 ar, .int .i64 ix] TPl (0, 0)) * (rshAt RS p S * F) from by ac_rfl)
    have b0 : W1.cell? ⟨B, 0, none⟩ = some (.int .i64 (k : Int)) := cells_at hbx.block 0
    have b1 : W1.cell? ⟨B, 1, none⟩ = some (.int .i64 ar) := cells_at hbx.block 1
    have b2 : W1.cell? ⟨B, 2, none⟩ = some (.int .i64 ix) := cells_at hbx.block 2
    clear hbx
    go_wp2_with (first
      | (go_at_call 81; refine (HNB.out _ W1 HA.out.2).mono ?_; rintro e w2 ⟨rfl, hb⟩; clear b0 b1 b2; have H2 := Lib.hid (And.intro (HA.out.1.below hb) (HA.out.2.below hb)); clear hb; have b0 : w2.cell? ⟨B, 0, none⟩ = some (.int .i64 (k : Int)) := cells_at (H2.out.2.perm (show _ = pts B (.cells #[.int .i64 (k : Int), .int .i64 ar, .int .i64 ix] TPl (0, 0)) * (rshAt RS p S * F) from by ac_rfl)).block 0)
      | (go_at_call 82; refine (HRD.out _ w2 H2.out.2).mono ?_; rintro e w3 ⟨rfl, rfl⟩))
    go_ret2
    exact ⟨rfl, H2.out.1, (H2.out.2.perm (show _ = pts B (.cells #[.int .i64 (k : Int), .int .i64 ar, .int .i64 ix] TPl (0, 0)) * (rshAt RS p S * F) from by ac_rfl)).right⟩
  case pos =>
    rw [if_neg (by simp [ha])] at hwr
    rw [ha] at HRD
    have HRE := Lib.hid (fun q G W (h : Sat W (refD RT q (S.disk k) * G)) => rread_any q (S.disk k) G nu W h)
    rw [hwr]
    generalize (S.disk k).read nu = rd at *
    have HK := Lib.hid hkb
    clear ha hkb hwr
    go_enter Tryz.func38, Tryz.ntmps38
    go_upto_region 1 with (fail)
    unfold plA at HA
    generalize w.alloc _ = W1 at HA ⊢
    generalize w.heap.size = B at HA ⊢
    have hbx := HA.out.2.perm (show _ = pts B (.cells #[.int .i64 (k : Int), .int .i64 ar, .int .i64 ix] TPl (0, 0)) * (rshAt RS p S * F) from by ac_rfl)
    have b0 : W1.cell? ⟨B, 0, none⟩ = some (.int .i64 (k : Int)) := cells_at hbx.block 0
    have b1 : W1.cell? ⟨B, 1, none⟩ = some (.int .i64 ar) := cells_at hbx.block 1
    have b2 : W1.cell? ⟨B, 2, none⟩ = some (.int .i64 ix) := cells_at hbx.block 2
    clear hbx
    go_upto_region 7 with (first
      | (go_at_call 81; refine (HNB.out _ W1 HA.out.2).mono ?_; rintro e w2 ⟨rfl, hb⟩; clear b0 b1 b2; have H2 := Lib.hid (And.intro (HA.out.1.below hb) (HA.out.2.below hb)); clear hb; have b0 : w2.cell? ⟨B, 0, none⟩ = some (.int .i64 (k : Int)) := cells_at (H2.out.2.perm (show _ = pts B (.cells #[.int .i64 (k : Int), .int .i64 ar, .int .i64 ix] TPl (0, 0)) * (rshAt RS p S * F) from by ac_rfl)).block 0)
      | (go_at_call 82; refine (HRD.out _ w2 H2.out.2).mono ?_; rintro e w3 ⟨rfl, rfl⟩))
    obtain ⟨vb, vs, vi, ps, qs, q, R, ho, hs⟩ := rsh_open H2.out.2 (k := k) HK.out
    obtain ⟨g, capb, rfl, c6, cq, -⟩ := rsh_bays ho hs
    rw [rshO_eq] at hs
    have hkn : (k : Int) < (S.bays.length : Int) := by have := HK.out; omega
    obtain ⟨n, hn⟩ : ∃ n, S.bays.length = n := ⟨_, rfl⟩
    rw [hn] at hkn c6 hs
    have HQ := Lib.hid hs
    have hk0 : (0 : Int) ≤ (k : Int) := by omega
    clear ho hs hn
    have hS0 : w2.drew.cell? ⟨p, 6, none⟩ = some (.slice (some ⟨g, 0, none⟩) n capb) ∧ w2.drew.cell? ⟨g, k, none⟩ = some (.pointer (some ⟨q, 0, none⟩)) ∧ w2.drew.cell? ⟨B, 0, none⟩ = some (.int .i64 (k : Int)) := ⟨c6, cq, b0⟩
    refine reg_begin (fun w' => w'.cell? ⟨p, 6, none⟩ = some (.slice (some ⟨g, 0, none⟩) n capb) ∧ w'.cell? ⟨g, k, none⟩ = some (.pointer (some ⟨q, 0, none⟩)) ∧ w'.cell? ⟨B, 0, none⟩ = some (.int .i64 (k : Int))) (by kernel_rfl) ?_
    clear c6 cq b0
    (apply reg_take 0 rfl rfl (by decide +kernel) rfl); (rintro w' ⟨h1, h2, h3⟩; go_simp; rfl); exact hS0; simp only [List.setIfInBounds_toArray, List.set_cons_succ, List.set_cons_zero]
    (apply reg_take 1 rfl rfl (by decide +kernel) rfl); (rintro w' ⟨h1, h2, h3⟩; go_simp; rfl); exact hS0; simp only [List.setIfInBounds_toArray, List.set_cons_succ, List.set_cons_zero]
    (apply reg_take 2 rfl rfl (by decide +kernel) rfl); (rintro w' ⟨h1, h2, h3⟩; go_simp; rfl); exact hS0; simp only [List.setIfInBounds_toArray, List.set_cons_succ, List.set_cons_zero]
    (apply reg_take 3 rfl rfl (by decide +kernel) rfl); (rintro w' ⟨h1, h2, h3⟩; go_simp; rfl); exact hS0; simp only [List.setIfInBounds_toArray, List.set_cons_succ, List.set_cons_zero]
    (apply reg_take 4 rfl rfl (by decide +kernel) rfl); (rintro w' ⟨h1, h2, h3⟩; go_simp; rfl); exact hS0; simp only [List.setIfInBounds_toArray, List.set_cons_succ, List.set_cons_zero]
    (apply reg_take 5 rfl rfl (by decide +kernel) rfl); (rintro w' ⟨h1, h2, h3⟩; go_simp; rfl); exact hS0; simp only [List.setIfInBounds_toArray, List.set_cons_succ, List.set_cons_zero]
    (apply reg_take 6 rfl rfl (by decide +kernel) rfl); (rintro w' ⟨h1, h2, h3⟩; go_simp; rfl); exact hS0; simp only [List.setIfInBounds_toArray, List.set_cons_succ, List.set_cons_zero]
    (apply reg_take 7 rfl rfl (by decide +kernel) rfl); (rintro w' ⟨h1, h2, h3⟩; go_simp; rfl); exact hS0; simp only [List.setIfInBounds_toArray, List.set_cons_succ, List.set_cons_zero]
    (apply reg_take 8 rfl rfl (by decide +kernel) rfl); (rintro w' ⟨h1, h2, h3⟩; go_simp; rfl); exact hS0; simp only [List.setIfInBounds_toArray, List.set_cons_succ, List.set_cons_zero]
    refine reg_call 9 rfl rfl (by decide +kernel) rfl (R := fun v w' => v = .tuple #[.string (strW rd.1), .int .i64 rd.2] ∧ w2.drew = w') (by kernel_rfl) ((HRE.out q _ w2.drew HQ.out.drew).mono fun e w' h => ⟨_, h.1, rfl, h.2⟩) ?_
    rintro _ w5 ⟨rfl, rfl⟩
    simp only [List.setIfInBounds_toArray, List.set_cons_succ, List.set_cons_zero]
    refine ⟨hS0, ?_⟩
    (apply reg_take 10 rfl rfl (by decide +kernel) rfl); (rintro w' ⟨h1, h2, h3⟩; go_simp; rfl); exact hS0; simp only [List.setIfInBounds_toArray, List.set_cons_succ, List.set_cons_zero]
    (apply reg_take 11 rfl rfl (by decide +kernel) rfl); (rintro w' ⟨h1, h2, h3⟩; go_simp; rfl); exact hS0; simp only [List.setIfInBounds_toArray, List.set_cons_succ, List.set_cons_zero]
    (apply reg_take 12 rfl rfl (by decide +kernel) rfl); (rintro w' ⟨h1, h2, h3⟩; go_simp; rfl); exact hS0; simp only [List.setIfInBounds_toArray, List.set_cons_succ, List.set_cons_zero]
    (apply reg_take 13 rfl rfl (by decide +kernel) rfl); (rintro w' ⟨h1, h2, h3⟩; go_simp; rfl); exact hS0; simp only [List.setIfInBounds_toArray, List.set_cons_succ, List.set_cons_zero]
    refine reg_done (by decide +kernel) ?_
    clear hS0
    go_wp2
    go_ret2
    exact ⟨rfl, H2.out.1.drew, (H2.out.2.drew.perm (show _ = pts B (.cells #[.int .i64 (k : Int), .int .i64 ar, .int .i64 ix] TPl (0, 0)) * (rshAt RS p S * F) from by ac_rfl)).right⟩
end Go.Proofs.YtogmkbhbmmgidaaGreat
end
