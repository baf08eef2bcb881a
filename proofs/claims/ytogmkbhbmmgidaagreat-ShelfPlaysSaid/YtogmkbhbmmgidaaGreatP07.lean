import Derived.Test.YtogmkbhbmmgidaaGreatP03
import Derived.Test.YtogmkbhbmmgidaaGreatP04
import Derived.Test.YtogmkbhbmmgidaaGreatP05
import Derived.Deep.Cut
import Derived.Test.YtogmkbhbmmgidaaGreatP06
/- Part 7 of a proof; the last part says what is proved. -/
section
namespace Go.Proofs.YtogmkbhbmmgidaaGreat
open Go.RowKit Go.Sl Go.ChangeMaps
set_option linter.unusedSimpArgs false in
set_option maxHeartbeats 1000000 in
theorem rot_any (p : Nat) (D : DiskM) (F : HProp) (k m : Nat) (w : World) (hS : Sat w (diskAt TD TS p D * F)) (hm : m < 512) (h : D.has (k : Int) = true) :
    Calls Tryz.prog 76 #[.pointer (some ⟨p, 0, none⟩), .int .i64 k, .int .i64 m] w fun e w' => e = .returned (.int .i64 0) ∧ Same w w' ∧ Sat w' (diskAt TD TS p (D.rot k m).1 * F) := by
  obtain ⟨v, cb, ab, es, ck, l, es2, ck2, l2, ⟨hwf, hM, hK, hM2, hK2⟩, hs⟩ := diskAt_iff.1 hS
  have hsd := hs.perm (show _ = durAt TS D.n D.dur v * (pts p (.cells #[v, .map (some cb), .map (some ab)] TD (0, 0)) * (pts cb (.map es ck) * (pts ab (.map es2 ck2) * F))) from by ac_rfl)
  have h2 := DiskM.has_iff.1 h
  have hkn : k < D.n := by omega
  have hd : (decide (0 ≤ (k : Int)) && decide ((k : Int) < (D.n : Int))) = true := h
  obtain ⟨b, cap, dc, ⟨rfl, hcap, hdc, hD⟩, hsb⟩ := (durAt_iff (by omega)).1 hsd
  obtain ⟨q0, q1, q2⟩ := disk_cells hs
  have hm1 : (0 : Int) ≤ (m : Int) := by omega
  have hm2 : (m : Int) < 512 := by omega
  have hm8 : m / 8 < 64 := by omega
  have hb1 : decide ((m : Int) < 0) = false := decide_eq_false (by omega)
  have hb2 : decide (512 ≤ (m : Int)) = false := decide_eq_false (by omega)
  have hwf' := hwf.rot (k : Int) (m : Int)
  obtain ⟨ti, hti, hz0, hts, hz2⟩ := info_parts info_TS
  obtain ⟨ti5, hti5, hz05, hts5, hz25⟩ := info_parts (show (Tryz.prog.info? 5).map (fun i => (i.zero, i.size, i.bytes)) = some (some (.int .u8 0), 1, 1) from by kernel_rfl)
  clear hz0 hz2 hz05 hz25
  obtain ⟨x, hx⟩ : ∃ x, x = (D.dur k).getD (m / 8) 0 := ⟨_, rfl⟩
  have hcell : w.cell? ⟨b, 0 + k * 64 + m / 8 * 1, none⟩ = some (.int .u8 (x.toNat : Int)) := by
    rw [cells_at hsb.block, hx]
    have := hD k hkn (m / 8) _ (secL_at (hwf.dur k hkn) hm8)
    rw [show 0 + k * 64 + m / 8 * 1 = k * 64 + m / 8 by omega]; exact this
  have hfr : w.frozen? ⟨b, 0 + k * 64 + m / 8 * 1, none⟩ = false := thawed_at hsb.block _
  have HX := Lib.hid hx
  have HH := Lib.hid h
  have HM := Lib.hid hM
  have HK := Lib.hid hK
  have HM2 := Lib.hid hM2
  have HK2 := Lib.hid hK2
  have HW := Lib.hid hwf
  have HW' := Lib.hid hwf'
  have HD := Lib.hid hD
  have H1 := Lib.hid hs
  have H2 := Lib.hid hsb
  clear hx hs hsb hS hM hK hM2 hK2 hwf hwf' hD hsd h
  go_enter Tryz.func76, Tryz.ntmps76
  go_upto_region 3 with (go_at_call 93; refine (has_any _ _ _ _ _ _ q0).mono ?_; rintro e w' ⟨rfl, rfl⟩)
  · have hS0 : w.drew.cell? ⟨p, 0, none⟩ = some (.slice (some ⟨b, 0, none⟩) D.n cap) ∧ w.drew.cell? ⟨b, 0 + k * 64 + m / 8 * 1, none⟩ = some (.int .u8 (x.toNat : Int)) := ⟨q0, hcell⟩
    refine reg_begin (fun w' => w'.cell? ⟨p, 0, none⟩ = some (.slice (some ⟨b, 0, none⟩) D.n cap) ∧ w'.cell? ⟨b, 0 + k * 64 + m / 8 * 1, none⟩ = some (.int .u8 (x.toNat : Int))) (by kernel_rfl) ?_
    (apply reg_take 0 rfl rfl (by decide +kernel) rfl); (rintro w' ⟨h1, h2⟩; go_simp; rfl); exact hS0; simp only [List.setIfInBounds_toArray, List.set_cons_succ, List.set_cons_zero]
    (apply reg_take 1 rfl rfl (by decide +kernel) rfl); (rintro w' ⟨h1, h2⟩; go_simp; rfl); exact hS0; simp only [List.setIfInBounds_toArray, List.set_cons_succ, List.set_cons_zero]
    (apply reg_take 2 rfl rfl (by decide +kernel) rfl); (rintro w' ⟨h1, h2⟩; go_simp; rfl); exact hS0; simp only [List.setIfInBounds_toArray, List.set_cons_succ, List.set_cons_zero]
    (apply reg_take 3 rfl rfl (by decide +kernel) rfl); (rintro w' ⟨h1, h2⟩; go_simp; rfl); exact hS0; simp only [List.setIfInBounds_toArray, List.set_cons_succ, List.set_cons_zero]
    (apply reg_take 4 rfl rfl (by decide +kernel) rfl); (rintro w' ⟨h1, h2⟩; go_simp; rfl); exact hS0; simp only [List.setIfInBounds_toArray, List.set_cons_succ, List.set_cons_zero]
    (apply reg_take 5 rfl rfl (by decide +kernel) rfl); (rintro w' ⟨h1, h2⟩; go_simp; rfl); exact hS0; simp only [List.setIfInBounds_toArray, List.set_cons_succ, List.set_cons_zero]
    refine reg_take 6 (v := .int .i64 ((m / 8 : Nat) : Int)) rfl rfl (by decide +kernel) rfl (fun w' _ => exec_binop rfl rfl rfl rfl (run_quo_nat _ m 8 (by omega) (by decide) w')) hS0 ?_; simp only [List.setIfInBounds_toArray, List.set_cons_succ, List.set_cons_zero]
    refine reg_take 7 (v := .pointer (some ⟨b, 0 + k * 64, none⟩)) rfl rfl (by decide +kernel) rfl (fun _ _ => exec_index_slice rfl rfl rfl Tryz.underlying94 hti hts hkn) hS0 ?_; simp only [List.setIfInBounds_toArray, List.set_cons_succ, List.set_cons_zero]
    refine reg_take 8 (v := .pointer (some ⟨b, 0 + k * 64 + m / 8 * 1, none⟩)) rfl rfl (by decide +kernel) rfl (fun _ _ => exec_index_array rfl rfl rfl Tryz.underlying106 hti5 hts5 hm8) hS0 ?_; simp only [List.setIfInBounds_toArray, List.set_cons_succ, List.set_cons_zero]
    refine reg_take 9 (v := .int .u8 (x.toNat : Int)) rfl rfl (by decide +kernel) rfl (fun _ h => exec_load_cell rfl rfl Tryz.underlying5 rfl h.2) hS0 ?_; simp only [List.setIfInBounds_toArray, List.set_cons_succ, List.set_cons_zero]
    (apply reg_take 10 rfl rfl (by decide +kernel) rfl); (rintro w' ⟨h1, h2⟩; go_simp; rfl); exact hS0; simp only [List.setIfInBounds_toArray, List.set_cons_succ, List.set_cons_zero]
    refine reg_take 11 (v := .int .i64 ((m % 8 : Nat) : Int)) rfl rfl (by decide +kernel) rfl (fun w' _ => exec_binop rfl rfl rfl rfl (run_rem_nat _ m 8 (by decide) w')) hS0 ?_; simp only [List.setIfInBounds_toArray, List.set_cons_succ, List.set_cons_zero]
    refine reg_take 12 (v := .int .u8 ((1 <<< UInt8.ofNat (m % 8) : UInt8).toNat : Int)) rfl rfl (by decide +kernel) rfl (fun w' _ => exec_binop rfl rfl rfl rfl (run_shl_u8 _ (m % 8) (Nat.mod_lt _ (by decide)) w')) hS0 ?_; simp only [List.setIfInBounds_toArray, List.set_cons_succ, List.set_cons_zero]
    refine reg_take 13 (v := .int .u8 ((x ^^^ 1 <<< UInt8.ofNat (m % 8) : UInt8).toNat : Int)) rfl rfl (by decide +kernel) rfl (fun w' _ => exec_binop rfl rfl rfl rfl (run_xor_u8 _ x _ w')) hS0 ?_; simp only [List.setIfInBounds_toArray, List.set_cons_succ, List.set_cons_zero]
    refine reg_take 14 (v := .pointer (some ⟨b, 0 + k * 64, none⟩)) rfl rfl (by decide +kernel) rfl (fun _ _ => exec_index_slice rfl rfl rfl Tryz.underlying94 hti hts hkn) hS0 ?_; simp only [List.setIfInBounds_toArray, List.set_cons_succ, List.set_cons_zero]
    refine reg_take 15 (v := .pointer (some ⟨b, 0 + k * 64 + m / 8 * 1, none⟩)) rfl rfl (by decide +kernel) rfl (fun _ _ => exec_index_array rfl rfl rfl Tryz.underlying106 hti5 hts5 hm8) hS0 ?_; simp only [List.setIfInBounds_toArray, List.set_cons_succ, List.set_cons_zero]
    refine reg_do_last 16 (w.drew.setCell ⟨b, 0 + k * 64 + m / 8 * 1, none⟩ (.int .u8 ((x ^^^ 1 <<< UInt8.ofNat (m % 8) : UInt8).toNat : Int))) rfl rfl (by decide +kernel) rfl (exec_store_cell rfl rfl rfl hti5 hts5 rfl hcell hfr) ?_
    have hS1 := H2.out.drew.setCell (i := 0 + k * 64 + m / 8 * 1) (.int .u8 ((x ^^^ 1 <<< UInt8.ofNat (m % 8) : UInt8).toNat : Int))
    have hsm : Same w (w.drew.setCell ⟨b, 0 + k * 64 + m / 8 * 1, none⟩ (.int .u8 ((x ^^^ 1 <<< UInt8.ofNat (m % 8) : UInt8).toNat : Int))) := ((Same.refl w).drew).setCell _ _
    generalize w.drew.setCell ⟨b, 0 + k * 64 + m / 8 * 1, none⟩ (.int .u8 ((x ^^^ 1 <<< UInt8.ofNat (m % 8) : UInt8).toNat : Int)) = w1 at hS1 hsm ⊢
    clear q0 q1 q2 hcell hfr
    have hsp := hS1.perm (show _ = pts p (.cells #[.slice (some ⟨b, 0, none⟩) D.n cap, .map (some cb), .map (some ab)] TD (0, 0)) * (pts b (.cells (dc.setIfInBounds (0 + k * 64 + m / 8 * 1) (.int .u8 ((x ^^^ 1 <<< UInt8.ofNat (m % 8) : UInt8).toNat : Int))) TS (0, 0)) * (pts cb (.map es ck) * (pts ab (.map es2 ck2) * F))) from by ac_rfl)
    obtain ⟨q0, q1, q2⟩ := disk_cells hsp
    have hplt := hsp.lt
    have hcb : w1.heap[cb]? = some (.map es ck) := (hsp.right.right).block
    have hl0 := run_lookup_ok (P := Tryz.prog) (w := w1) Tryz.underlying95 Tryz.underlying3 (zeroTS w1) hcb HM.out (k : Int)
    have hlk0 := HK.out (k : Int)
    rw [if_pos h2.1] at hlk0
    simp only [Int.toNat_natCast] at hlk0
    have HS := Lib.hid hsp
    have HSM := Lib.hid hsm
    clear hsp hS1 hsm hcb
    cases hca : D.cache k with
    | none =>
      rw [hca] at hlk0
      rw [hlk0] at hl0
      simp only [Option.map_none, Option.getD_none, Option.isSome_none] at hl0
      have HC := Lib.hid hca
      clear hlk0 hca
      go_wp2_with (first
        | ((with_reducible (refine wpList_alloc_zero ?_ TS ?_ _ (zeroTS _) ?_)); rfl; rfl)
        | ((with_reducible (apply wp_store_sec zsec_length zsec_length)); rfl; rfl; rfl; rfl))
      go_ret
      refine ⟨rfl, HSM.out.alloc _, ?_⟩
      have e : (D.rot (k : Int) (m : Int)).1 = { D with dur := fupd D.dur k (DiskM.flip (D.dur k) m), cache := fupd D.cache k none } := by
        unfold DiskM.rot; rw [if_pos ⟨HH.out, hm1, hm2⟩]; simp only [Int.toNat_natCast, HC.out, Option.map_none]
      have hP := HW'.out
      rw [e, fupd_self HC.out] at hP
      rw [e, fupd_self HC.out]
      have hS4 := HS.out.allocKeep (.cells (secA zsec) TS)
      refine diskAt_iff.2 ⟨.slice (some ⟨b, 0, none⟩) D.n cap, cb, ab, es, ck, _, es2, ck2, _, ⟨hP, HM.out, HK.out, HM2.out, HK2.out⟩, ?_⟩
      refine Sat.perm ((durAt_iff (by omega)).2 ⟨b, cap, _, ⟨rfl, hcap, by rw [Array.size_setIfInBounds]; exact hdc, ?_⟩, hS4.perm (show _ = pts b (.cells (dc.setIfInBounds (0 + k * 64 + m / 8 * 1) (.int .u8 ((x ^^^ 1 <<< UInt8.ofNat (m % 8) : UInt8).toNat : Int))) TS (0, 0)) * (pts p (.cells #[.slice (some ⟨b, 0, none⟩) D.n cap, .map (some cb), .map (some ab)] TD (0, 0)) * (pts cb (.map es ck) * (pts ab (.map es2 ck2) * F))) from by ac_rfl)⟩) (by ac_rfl)
      rw [show 0 + k * 64 + m / 8 * 1 = k * 64 + m / 8 by omega]
      exact durC_set HD.out hdc hcap HW.out.dur hkn hm8 _ _ (by rw [secL_flip, HX.out]; rfl)
    | some s =>
      rw [hca] at hlk0
      rw [hlk0] at hl0
      simp only [Option.map_some, Option.getD_some, Option.isSome_some] at hl0
      have HC := Lib.hid hca
      have hsl := (HW.out.cache k s hca).2
      have HSL := Lib.hid hsl
      clear hlk0 hca
      go_wp2_with (first
        | ((with_reducible (refine wpList_alloc_zero ?_ TS ?_ _ (zeroTS _) ?_)); rfl; rfl)
        | ((with_reducible (apply wp_store_sec zsec_length hsl)); rfl; rfl; rfl; rfl))
      obtain ⟨y, hy⟩ : ∃ y, y = s.getD (m / 8) 0 := ⟨_, rfl⟩
      have HY := Lib.hid hy
      have hS2 := HS.out.alloc (.cells (secA s) TS)
      have hsm2 := HSM.out.alloc (.cells (secA s) TS)
      generalize w1.alloc (.cells (secA s) TS) = w2 at hS2 hsm2 ⊢
      generalize w1.heap.size = N at hS2 ⊢
      have hcell : w2.cell? ⟨N, 0 + m / 8 * 1, none⟩ = some (.int .u8 (y.toNat : Int)) := by
        rw [cells_at hS2.block, hy, show 0 + m / 8 * 1 = m / 8 by omega]
        have := secL_at hsl hm8
        rw [← secA_toList] at this
        simpa [byteV] using this
      have hfr : w2.frozen? ⟨N, 0 + m / 8 * 1, none⟩ = false := thawed_at hS2.block _
      clear hy q0 q1 q2 hplt
      have hS0 : w2.drew.cell? ⟨N, 0 + m / 8 * 1, none⟩ = some (.int .u8 (y.toNat : Int)) := hcell
      refine reg_begin (fun w' => w'.cell? ⟨N, 0 + m / 8 * 1, none⟩ = some (.int .u8 (y.toNat : Int))) (by kernel_rfl) ?_
      (apply reg_take 0 rfl rfl (by decide +kernel) rfl); (intro w' hw'; go_simp; rfl); exact hS0; simp only [List.setIfInBounds_toArray, List.set_cons_succ, List.set_cons_zero]
      refine reg_take 1 (v := .int .i64 ((m / 8 : Nat) : Int)) rfl rfl (by decide +kernel) rfl (fun w' _ => exec_binop rfl rfl rfl rfl (run_quo_nat _ m 8 (by omega) (by decide) w')) hS0 ?_; simp only [List.setIfInBounds_toArray, List.set_cons_succ, List.set_cons_zero]
      refine reg_take 2 (v := .pointer (some ⟨N, 0 + m / 8 * 1, none⟩)) rfl rfl (by decide +kernel) rfl (fun _ _ => exec_index_array rfl rfl rfl Tryz.underlying106 hti5 hts5 hm8) hS0 ?_; simp only [List.setIfInBounds_toArray, List.set_cons_succ, List.set_cons_zero]
      refine reg_take 3 (v := .int .u8 (y.toNat : Int)) rfl rfl (by decide +kernel) rfl (fun _ h => exec_load_cell rfl rfl Tryz.underlying5 rfl h) hS0 ?_; simp only [List.setIfInBounds_toArray, List.set_cons_succ, List.set_cons_zero]
      (apply reg_take 4 rfl rfl (by decide +kernel) rfl); (intro w' hw'; go_simp; rfl); exact hS0; simp only [List.setIfInBounds_toArray, List.set_cons_succ, List.set_cons_zero]
      refine reg_take 5 (v := .int .i64 ((m % 8 : Nat) : Int)) rfl rfl (by decide +kernel) rfl (fun w' _ => exec_binop rfl rfl rfl rfl (run_rem_nat _ m 8 (by decide) w')) hS0 ?_; simp only [List.setIfInBounds_toArray, List.set_cons_succ, List.set_cons_zero]
      refine reg_take 6 (v := .int .u8 ((1 <<< UInt8.ofNat (m % 8) : UInt8).toNat : Int)) rfl rfl (by decide +kernel) rfl (fun w' _ => exec_binop rfl rfl rfl rfl (run_shl_u8 _ (m % 8) (Nat.mod_lt _ (by decide)) w')) hS0 ?_; simp only [List.setIfInBounds_toArray, List.set_cons_succ, List.set_cons_zero]
      refine reg_take 7 (v := .int .u8 ((y ^^^ 1 <<< UInt8.ofNat (m % 8) : UInt8).toNat : Int)) rfl rfl (by decide +kernel) rfl (fun w' _ => exec_binop rfl rfl rfl rfl (run_xor_u8 _ y _ w')) hS0 ?_; simp only [List.setIfInBounds_toArray, List.set_cons_succ, List.set_cons_zero]
      refine reg_take 8 (v := .pointer (some ⟨N, 0 + m / 8 * 1, none⟩)) rfl rfl (by decide +kernel) rfl (fun _ _ => exec_index_array rfl rfl rfl Tryz.underlying106 hti5 hts5 hm8) hS0 ?_; simp only [List.setIfInBounds_toArray, List.set_cons_succ, List.set_cons_zero]
      refine reg_do_last 9 (w2.drew.setCell ⟨N, 0 + m / 8 * 1, none⟩ (.int .u8 ((y ^^^ 1 <<< UInt8.ofNat (m % 8) : UInt8).toNat : Int))) rfl rfl (by decide +kernel) rfl (exec_store_cell rfl rfl rfl hti5 hts5 rfl hcell hfr) ?_
      have hS3 := hS2.drew.setCell (i := 0 + m / 8 * 1) (.int .u8 ((y ^^^ 1 <<< UInt8.ofNat (m % 8) : UInt8).toNat : Int))
      have hsm3 := hsm2.drew.setCell ⟨N, 0 + m / 8 * 1, none⟩ (.int .u8 ((y ^^^ 1 <<< UInt8.ofNat (m % 8) : UInt8).toNat : Int))
      generalize w2.drew.setCell ⟨N, 0 + m / 8 * 1, none⟩ (.int .u8 ((y ^^^ 1 <<< UInt8.ofNat (m % 8) : UInt8).toNat : Int)) = w3 at hS3 hsm3 ⊢
      have hfl : (secA s).setIfInBounds (0 + m / 8 * 1) (.int .u8 ((y ^^^ 1 <<< UInt8.ofNat (m % 8) : UInt8).toNat : Int)) = secA (DiskM.flip s m) := by rw [secA_flip, HY.out]; rfl
      rw [hfl] at hS3
      clear hfl hcell hfr hS0 hS2 hsm2
      have hfll : (DiskM.flip s m).length = 64 := by rw [DiskM.flip_length]; exact hsl
      have hrow : w3.rangeAt N 0 (secL (DiskM.flip s m)) := by
        intro j u hu
        rw [cells_at hS3.block, Nat.zero_add, ← hu, ← secA_toList]; simp
      obtain ⟨q0, q1, q2⟩ := disk_cells hS3.right
      have hScb := hS3.right.perm (show _ = pts cb (.map es ck) * (pts p (.cells #[.slice (some ⟨b, 0, none⟩) D.n cap, .map (some cb), .map (some ab)] TD (0, 0)) * (pts b (.cells (dc.setIfInBounds (0 + k * 64 + m / 8 * 1) (.int .u8 ((x ^^^ 1 <<< UInt8.ofNat (m % 8) : UInt8).toNat : Int))) TS (0, 0)) * (pts ab (.map es2 ck2) * F))) from by ac_rfl)
      obtain ⟨es4, ck4, hup, hM4⟩ := run_mapUpdate_kv (P := Tryz.prog) (w := w3.drew) Tryz.underlying95 Tryz.underlying3 hScb.drew.block HM.out (k : Int) (secV (DiskM.flip s m))
      have HM4 := Lib.hid hM4
      have HS3 := Lib.hid hScb
      have HSM3 := Lib.hid hsm3
      clear hM4 hScb hS3 hsm3
      go_upto_region 7 with (fail)
      have hS0 : w3.drew.cell? ⟨p, 1, none⟩ = some (.map (some cb)) ∧ w3.drew.rangeAt N 0 (secL (DiskM.flip s m)) := ⟨q1, hrow⟩
      refine reg_begin (fun w' => w'.cell? ⟨p, 1, none⟩ = some (.map (some cb)) ∧ w'.rangeAt N 0 (secL (DiskM.flip s m))) (by kernel_rfl) ?_
      (apply reg_take 0 rfl rfl (by decide +kernel) rfl); (rintro w' ⟨h1, _⟩; go_simp; rfl); exact hS0; simp only [List.setIfInBounds_toArray, List.set_cons_succ, List.set_cons_zero]
      (apply reg_take 1 rfl rfl (by decide +kernel) rfl); (rintro w' ⟨h1, _⟩; go_simp; rfl); exact hS0; simp only [List.setIfInBounds_toArray, List.set_cons_succ, List.set_cons_zero]
      (apply reg_take 2 rfl rfl (by decide +kernel) rfl); (rintro w' ⟨h1, _⟩; go_simp; rfl); exact hS0; simp only [List.setIfInBounds_toArray, List.set_cons_succ, List.set_cons_zero]
      (apply reg_take 3 rfl rfl (by decide +kernel) rfl); (rintro w' ⟨h1, _⟩; go_simp; rfl); exact hS0; simp only [List.setIfInBounds_toArray, List.set_cons_succ, List.set_cons_zero]
      (apply reg_take 4 rfl rfl (by decide +kernel) rfl); (rintro w' ⟨h1, _⟩; go_simp; rfl); exact hS0; simp only [List.setIfInBounds_toArray, List.set_cons_succ, List.set_cons_zero]
      refine reg_take 5 (v := secV (DiskM.flip s m)) rfl rfl (by decide +kernel) rfl (fun w' h => exec_load rfl rfl (run_loadAt_mid w' N 0 TS (secL (DiskM.flip s m)) _ h.2 Tryz.underlying106 rfl (by rw [infoTS hfll, secA_size, secL_length]))) hS0 ?_; simp only [List.setIfInBounds_toArray, List.set_cons_succ, List.set_cons_zero]
      refine reg_do_last 6 (setBlock w3.drew cb (.map es4 ck4)) rfl rfl (by decide +kernel) rfl (exec_mapUpdate rfl rfl rfl rfl hup) ?_
      clear hup hrow hS0
      go_wp2
      go_ret
      refine ⟨rfl, (HSM3.out.drew).setBlock _, ?_⟩
      have e : (D.rot (k : Int) (m : Int)).1 = { D with dur := fupd D.dur k (DiskM.flip (D.dur k) m), cache := fupd D.cache k (some (DiskM.flip s m)) } := by
        unfold DiskM.rot; rw [if_pos ⟨HH.out, hm1, hm2⟩]; simp only [Int.toNat_natCast, HC.out, Option.map_some]
      have hP := HW'.out
      rw [e] at hP ⊢
      have hS4 := (HS3.out.drew).setBlock (o' := .map es4 ck4)
      refine diskAt_iff.2 ⟨.slice (some ⟨b, 0, none⟩) D.n cap, cb, ab, es4, ck4, _, es2, ck2, _, ⟨hP, HM4.out, HK.out.upd h2.1 _, HM2.out, HK2.out⟩, ?_⟩
      refine Sat.perm ((durAt_iff (by omega)).2 ⟨b, cap, _, ⟨rfl, hcap, by rw [Array.size_setIfInBounds]; exact hdc, ?_⟩, hS4.perm (show _ = pts b (.cells (dc.setIfInBounds (0 + k * 64 + m / 8 * 1) (.int .u8 ((x ^^^ 1 <<< UInt8.ofNat (m % 8) : UInt8).toNat : Int))) TS (0, 0)) * (pts p (.cells #[.slice (some ⟨b, 0, none⟩) D.n cap, .map (some cb), .map (some ab)] TD (0, 0)) * (pts cb (.map es4 ck4) * (pts ab (.map es2 ck2) * F))) from by ac_rfl)⟩) (by ac_rfl)
      rw [show 0 + k * 64 + m / 8 * 1 = k * 64 + m / 8 by omega]
      exact durC_set HD.out hdc hcap HW.out.dur hkn hm8 _ _ (by rw [secL_flip, HX.out]; rfl)
end Go.Proofs.YtogmkbhbmmgidaaGreat
end
section
namespace Go.Proofs.YtogmkbhbmmgidaaGreat
open Go.RowKit Go.Sl Go.ChangeMaps
theorem zero_cache {D : DiskM} (h : D.WF) (hn : D.n = 0) : D.cache = fun _ => none := by
  funext i
  cases hc : D.cache i with
  | none => rfl
  | some s => have := (h.cache i s hc).1; omega
theorem zero_kv {l : KV} (h : KvSec l fun _ => none) : l = [] := by
  cases l with
  | nil => rfl
  | cons a t =>
    obtain ⟨k, v⟩ := a
    have := h k
    simp [lk] at this
theorem zero_flush {D : DiskM} (h : D.WF) (hn : D.n = 0) : D.flush = D := by
  have hc := zero_cache h hn
  unfold DiskM.flush
  rw [← hc]
  have : (fun i => D.content i) = D.dur := by funext i; simp [DiskM.content, hc]
  rw [this]
structure FlushZ (w0 : World) (p : Nat) (D : DiskM) (F : HProp) (r cb ck : Nat) (X : HProp) (wr : World) : Prop where
  st : Same w0 wr ∧ Sat wr (pts r (.mapIter (some cb) ck #[] ck) * (pts cb (.map #[] ck) * X))
set_option linter.unusedSimpArgs false in
set_option maxHeartbeats 1000000 in
theorem flush_zero (p : Nat) (D : DiskM) (F : HProp) (w : World) (hS : Sat w (diskAt TD TS p D * F)) (hn : D.n = 0) :
    Calls Tryz.prog 62 #[.pointer (some ⟨p, 0, none⟩)] w fun e w' => e = .returned (.tuple #[]) ∧ Same w w' ∧ Sat w' (diskAt TD TS p D.flush * F) := by
  obtain ⟨v, cb, ab, es, ck, l, es2, ck2, l2, ⟨hwf, hM, hK, hM2, hK2⟩, hs⟩ := diskAt_iff.1 hS
  rw [zero_flush hwf hn]
  have hc := zero_cache hwf hn
  have hK' := hK
  rw [hc] at hK'
  obtain rfl := zero_kv hK'
  obtain rfl : es = #[] := by have := hM.size; simp at this; exact this
  obtain ⟨q0, q1, q2⟩ := disk_cells hs
  have hcs := hs.perm (show _ = pts cb (.map #[] ck) * (pts p (.cells #[v, .map (some cb), .map (some ab)] TD (0, 0)) * (durAt TS D.n D.dur v * (pts ab (.map es2 ck2) * F))) from by ac_rfl)
  have hrg := run_range_kv (P := Tryz.prog) Tryz.underlying95 hcs.block
  have hst : FlushZ w p D F w.heap.size cb ck (pts p (.cells #[v, .map (some cb), .map (some ab)] TD (0, 0)) * (durAt TS D.n D.dur v * (pts ab (.map es2 ck2) * F))) (w.alloc (.mapIter (some cb) ck #[] ck)) :=
    ⟨(Same.refl w).alloc _, hcs.alloc (.mapIter (some cb) ck #[] ck)⟩
  have HM := Lib.hid hM
  have HST := Lib.hid hst
  have HB := Lib.hid (fun w' (h : Sat w' (pts cb (.map #[] ck) * (pts p (.cells #[v, .map (some cb), .map (some ab)] TD (0, 0)) * (durAt TS D.n D.dur v * (pts ab (.map es2 ck2) * F))))) =>
    (diskAt_iff.2 ⟨v, cb, ab, #[], ck, [], es2, ck2, l2, ⟨hwf, hM, hK, hM2, hK2⟩, h.perm (by ac_rfl)⟩ : Sat w' (diskAt TD TS p D * F)))
  clear hst hM hK hK' hM2 hK2 hwf hs hcs hS hc
  go_enter Tryz.func62, Tryz.ntmps62
  go_wp2_with ((with_reducible (apply wpList_range_run (h := hrg))); rfl; rfl; rfl)
  generalize w.heap.size = r at HST ⊢
  clear hrg q0 q1 q2
  go_loopw [] (fun wr => FlushZ w p D F r cb ck (pts p (.cells #[v, .map (some cb), .map (some ab)] TD (0, 0)) * (durAt TS D.n D.dur v * (pts ab (.map es2 ck2) * F))) wr) (fun wr => 0)
  case atStart => exact HST.out
  case round =>
    obtain ⟨hsm, hsat⟩ := hrel.st
    clear hrel
    rcases run_next_kv (P := Tryz.prog) hsat.block hsat.right.block HM.out with ⟨hall, W, hnx, hW⟩ | ⟨e, he, hes, w0, hw0, hnx⟩
    · have hsW : Sat W (pts cb (.map #[] ck) * (pts p (.cells #[v, .map (some cb), .map (some ab)] TD (0, 0)) * (durAt TS D.n D.dur v * (pts ab (.map es2 ck2) * F)))) := by rcases hW with rfl | rfl <;> exact hsat.right
      have hsmW : Same w W := by rcases hW with rfl | rfl; exact hsm; exact hsm.drew
      have hcl := run_clear_kv (P := Tryz.prog) (w := W) Tryz.underlying95 hsW.block
      obtain ⟨q0, q1, q2⟩ := disk_cells hsW.right
      have hfin := HB.out _ (hsW.setBlock (o' := .map #[] ck))
      have HF := Lib.hid hfin
      have HS := Lib.hid hsmW
      clear hfin hsW hsmW hsat hsm hW hall
      go_wp2_with (first
        | ((with_reducible (apply wpList_next_run (h := hnx))); rfl; rfl; rfl)
        | ((with_reducible (apply wpList_clear_run (hrun := hcl))); rfl; rfl; rfl))
      go_end0
      exact ⟨rfl, HS.out.setBlock _, HF.out⟩
    · simp at he
theorem flush_all (p : Nat) (D : DiskM) (F : HProp) (w : World) (hS : Sat w (diskAt TD TS p D * F)) :
    Calls Tryz.prog 62 #[.pointer (some ⟨p, 0, none⟩)] w fun e w' => e = .returned (.tuple #[]) ∧ Same w w' ∧ Sat w' (diskAt TD TS p D.flush * F) := by
  by_cases hn : D.n = 0
  · exact flush_zero p D F w hS hn
  · exact flush_any p D F w hS (by omega)
set_option maxHeartbeats 400000 in
theorem rot_bad (p : Nat) (D : DiskM) (F : HProp) (i bit : Int) (w : World) (hS : Sat w (diskAt TD TS p D * F)) (h : ¬ (D.has i = true ∧ 0 ≤ bit ∧ bit < 512)) :
    Calls Tryz.prog 76 #[.pointer (some ⟨p, 0, none⟩), .int .i64 i, .int .i64 bit] w fun e w' => e = .returned (.int .i64 1) ∧ Same w w' ∧ Sat w' (diskAt TD TS p D * F) := by
  obtain ⟨v, cb, ab, es, ck, l, es2, ck2, l2, ⟨hwf, hM, hK, hM2, hK2⟩, hs⟩ := diskAt_iff.1 hS
  obtain ⟨b, cap, rfl⟩ := durAt_slice hs.right
  obtain ⟨q0, q1, q2⟩ := disk_cells hs
  have HS := Lib.hid hS
  by_cases hh : D.has i = true
  · have hd : (decide (0 ≤ i) && decide (i < (D.n : Int))) = true := hh
    by_cases h0 : 0 ≤ bit
    · have hb1 : decide (bit < 0) = false := decide_eq_false (by omega)
      have hb2 : decide (512 ≤ bit) = true := decide_eq_true (by by_cases h5 : 512 ≤ bit; exact h5; exact absurd ⟨hh, h0, by omega⟩ h)
      clear hS hs hM hK hM2 hK2 hwf h hh
      go_enter Tryz.func76, Tryz.ntmps76
      go_wp2_with (go_at_call 93; refine (has_any _ _ _ _ _ _ q0).mono ?_; rintro e w' ⟨rfl, rfl⟩)
      go_ret
      exact ⟨rfl, Same.refl w, HS.out⟩
    · have hb1 : decide (bit < 0) = true := decide_eq_true (by omega)
      clear hS hs hM hK hM2 hK2 hwf h hh
      go_enter Tryz.func76, Tryz.ntmps76
      go_wp2_with (go_at_call 93; refine (has_any _ _ _ _ _ _ q0).mono ?_; rintro e w' ⟨rfl, rfl⟩)
      go_ret
      exact ⟨rfl, Same.refl w, HS.out⟩
  · have hd : (decide (0 ≤ i) && decide (i < (D.n : Int))) = false := by simpa [DiskM.has] using hh
    clear hS hs hM hK hM2 hK2 hwf h hh
    go_enter Tryz.func76, Tryz.ntmps76
    go_wp2_with (go_at_call 93; refine (has_any _ _ _ _ _ _ q0).mono ?_; rintro e w' ⟨rfl, rfl⟩)
    go_ret
    exact ⟨rfl, Same.refl w, HS.out⟩
theorem rot_all (p : Nat) (D : DiskM) (F : HProp) (i bit : Int) (w : World) (hS : Sat w (diskAt TD TS p D * F)) :
    Calls Tryz.prog 76 #[.pointer (some ⟨p, 0, none⟩), .int .i64 i, .int .i64 bit] w fun e w' => e = .returned (.int .i64 (D.rot i bit).2) ∧ Same w w' ∧ Sat w' (diskAt TD TS p (D.rot i bit).1 * F) := by
  by_cases h : D.has i = true ∧ 0 ≤ bit ∧ bit < 512
  · have h2 := DiskM.has_iff.1 h.1
    obtain ⟨k, rfl⟩ := Int.eq_ofNat_of_zero_le h2.1
    obtain ⟨m, rfl⟩ := Int.eq_ofNat_of_zero_le h.2.1
    have hr : (D.rot (k : Int) (m : Int)).2 = 0 := by unfold DiskM.rot; rw [if_pos h]
    rw [hr]
    exact rot_any p D F k m w hS (by omega) h.1
  · have hr : D.rot i bit = (D, 1) := by unfold DiskM.rot; rw [if_neg h]
    rw [hr]
    exact rot_bad p D F i bit w hS h
end Go.Proofs.YtogmkbhbmmgidaaGreat
end
