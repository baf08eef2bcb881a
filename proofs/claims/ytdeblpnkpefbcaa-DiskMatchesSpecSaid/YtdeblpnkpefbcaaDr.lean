/- The walks over disk.Misdirect and disk.Rot. -/
import Derived.Test.YtdeblpnkpefbcaaDk
import Derived.Test.YtdeblpnkpefbcaaRh
import Derived.Test.YtdeblpnkpefbcaaDn
import Derived.Deep.Cut
namespace Go.Proofs.Ytdeblpnkpefbcaa
open Go.RowKit Go.Sl Go.ChangeMaps

set_option linter.unusedSimpArgs false in
set_option maxHeartbeats 1000000 in
theorem rot_any (p : Nat) (D : DiskM) (F : HProp) (k m : Nat) (w : World) (hS : Sat w (diskAt TD TS p D * F)) (hm : m < 512) (h : D.has (k : Int) = true) :
    Calls Try.prog 30 #[.pointer (some ⟨p, 0, none⟩), .int .i64 k, .int .i64 m] w fun e w' => e = .returned (.int .i64 0) ∧ Same w w' ∧ Sat w' (diskAt TD TS p (D.rot k m).1 * F) := by
  obtain ⟨v, cb, ab, es, ck, l, es2, ck2, l2, ⟨hwf, hM, hK, hM2, hK2⟩, hs⟩ := diskAt_iff.1 hS
  have hsd := hs.perm (show _ = durAt TS D.n D.dur v * (pts p (.cells #[v, .map (some cb), .map (some ab)] TD (0, 0)) * (pts cb (.map es ck) * (pts ab (.map es2 ck2) * F))) from by ac_rfl)
  have h2 := DiskM.has_iff.1 h
  have hkn : k < D.n := by omega
  have hd : (decide (0 ≤ (k : Int)) && decide ((k : Int) < (D.n : Int))) = true := h
  obtain ⟨b, cap, dc, ⟨rfl, hcap, hdc, hD⟩, hsb⟩ := (durAt_iff (by omega)).1 hsd
  obtain ⟨q0, q1, q2⟩ := disk_cells hs
  have hm1 : (0 : Int) ≤ (m : Int) := by omega
  have hm2 : (m : Int) < 512 := by omega
  have hm8 : m / 8 < 64 := by omega
  have hb1 : decide ((m : Int) < 0) = false := decide_eq_false (by omega)
  have hb2 : decide (512 ≤ (m : Int)) = false := decide_eq_false (by omega)
  have hwf' := hwf.rot (k : Int) (m : Int)
  obtain ⟨ti, hti, hz0, hts, hz2⟩ := info_parts info_TS
  obtain ⟨ti5, hti5, hz05, hts5, hz25⟩ := info_parts (show (Try.prog.info? 5).map (fun i => (i.zero, i.size, i.bytes)) = some (some (.int .u8 0), 1, 1) from by kernel_rfl)
  clear hz0 hz2 hz05 hz25
  obtain ⟨x, hx⟩ : ∃ x, x = (D.dur k).getD (m / 8) 0 := ⟨_, rfl⟩
  have hcell : w.cell? ⟨b, 0 + k * 64 + m / 8 * 1, none⟩ = some (.int .u8 (x.toNat : Int)) := by
    rw [cells_at hsb.block, hx]
    have := hD k hkn (m / 8) _ (secL_at (hwf.dur k hkn) hm8)
    rw [show 0 + k * 64 + m / 8 * 1 = k * 64 + m / 8 by omega]; exact this
  have hfr : w.frozen? ⟨b, 0 + k * 64 + m / 8 * 1, none⟩ = false := thawed_at hsb.block _
  have HX := Lib.hid hx
  have HH := Lib.hid h
  have HM := Lib.hid hM
  have HK := Lib.hid hK
  have HM2 := Lib.hid hM2
  have HK2 := Lib.hid hK2
  have HW := Lib.hid hwf
  have HW' := Lib.hid hwf'
  have HD := Lib.hid hD
  have H1 := Lib.hid hs
  have H2 := Lib.hid hsb
  clear hx hs hsb hS hM hK hM2 hK2 hwf hwf' hD hsd h
  go_enter Try.func30, Try.ntmps30
  go_upto_region 3 with (go_at_call 41; refine (has_any _ _ _ _ _ _ q0).mono ?_; rintro e w' ⟨rfl, rfl⟩)
  · have hS0 : w.drew.cell? ⟨p, 0, none⟩ = some (.slice (some ⟨b, 0, none⟩) D.n cap) ∧ w.drew.cell? ⟨b, 0 + k * 64 + m / 8 * 1, none⟩ = some (.int .u8 (x.toNat : Int)) := ⟨q0, hcell⟩
    refine reg_begin (fun w' => w'.cell? ⟨p, 0, none⟩ = some (.slice (some ⟨b, 0, none⟩) D.n cap) ∧ w'.cell? ⟨b, 0 + k * 64 + m / 8 * 1, none⟩ = some (.int .u8 (x.toNat : Int))) (by kernel_rfl) ?_
    (apply reg_take 0 rfl rfl (by decide +kernel) rfl); (rintro w' ⟨h1, h2⟩; go_simp; rfl); exact hS0; simp only [List.setIfInBounds_toArray, List.set_cons_succ, List.set_cons_zero]
    (apply reg_take 1 rfl rfl (by decide +kernel) rfl); (rintro w' ⟨h1, h2⟩; go_simp; rfl); exact hS0; simp only [List.setIfInBounds_toArray, List.set_cons_succ, List.set_cons_zero]
    (apply reg_take 2 rfl rfl (by decide +kernel) rfl); (rintro w' ⟨h1, h2⟩; go_simp; rfl); exact hS0; simp only [List.setIfInBounds_toArray, List.set_cons_succ, List.set_cons_zero]
    (apply reg_take 3 rfl rfl (by decide +kernel) rfl); (rintro w' ⟨h1, h2⟩; go_simp; rfl); exact hS0; simp only [List.setIfInBounds_toArray, List.set_cons_succ, List.set_cons_zero]
    (apply reg_take 4 rfl rfl (by decide +kernel) rfl); (rintro w' ⟨h1, h2⟩; go_simp; rfl); exact hS0; simp only [List.setIfInBounds_toArray, List.set_cons_succ, List.set_cons_zero]
    (apply reg_take 5 rfl rfl (by decide +kernel) rfl); (rintro w' ⟨h1, h2⟩; go_simp; rfl); exact hS0; simp only [List.setIfInBounds_toArray, List.set_cons_succ, List.set_cons_zero]
    refine reg_take 6 (v := .int .i64 ((m / 8 : Nat) : Int)) rfl rfl (by decide +kernel) rfl (fun w' _ => exec_binop rfl rfl rfl rfl (run_quo_nat _ m 8 (by omega) (by decide) w')) hS0 ?_; simp only [List.setIfInBounds_toArray, List.set_cons_succ, List.set_cons_zero]
    refine reg_take 7 (v := .pointer (some ⟨b, 0 + k * 64, none⟩)) rfl rfl (by decide +kernel) rfl (fun _ _ => exec_index_slice rfl rfl rfl Try.underlying61 hti hts hkn) hS0 ?_; simp only [List.setIfInBounds_toArray, List.set_cons_succ, List.set_cons_zero]
    refine reg_take 8 (v := .pointer (some ⟨b, 0 + k * 64 + m / 8 * 1, none⟩)) rfl rfl (by decide +kernel) rfl (fun _ _ => exec_index_array rfl rfl rfl Try.underlying72 hti5 hts5 hm8) hS0 ?_; simp only [List.setIfInBounds_toArray, List.set_cons_succ, List.set_cons_zero]
    refine reg_take 9 (v := .int .u8 (x.toNat : Int)) rfl rfl (by decide +kernel) rfl (fun _ h => exec_load_cell rfl rfl Try.underlying5 rfl h.2) hS0 ?_; simp only [List.setIfInBounds_toArray, List.set_cons_succ, List.set_cons_zero]
    (apply reg_take 10 rfl rfl (by decide +kernel) rfl); (rintro w' ⟨h1, h2⟩; go_simp; rfl); exact hS0; simp only [List.setIfInBounds_toArray, List.set_cons_succ, List.set_cons_zero]
    refine reg_take 11 (v := .int .i64 ((m % 8 : Nat) : Int)) rfl rfl (by decide +kernel) rfl (fun w' _ => exec_binop rfl rfl rfl rfl (run_rem_nat _ m 8 (by decide) w')) hS0 ?_; simp only [List.setIfInBounds_toArray, List.set_cons_succ, List.set_cons_zero]
    refine reg_take 12 (v := .int .u8 ((1 <<< UInt8.ofNat (m % 8) : UInt8).toNat : Int)) rfl rfl (by decide +kernel) rfl (fun w' _ => exec_binop rfl rfl rfl rfl (run_shl_u8 _ (m % 8) (Nat.mod_lt _ (by decide)) w')) hS0 ?_; simp only [List.setIfInBounds_toArray, List.set_cons_succ, List.set_cons_zero]
    refine reg_take 13 (v := .int .u8 ((x ^^^ 1 <<< UInt8.ofNat (m % 8) : UInt8).toNat : Int)) rfl rfl (by decide +kernel) rfl (fun w' _ => exec_binop rfl rfl rfl rfl (run_xor_u8 _ x _ w')) hS0 ?_; simp only [List.setIfInBounds_toArray, List.set_cons_succ, List.set_cons_zero]
    refine reg_take 14 (v := .pointer (some ⟨b, 0 + k * 64, none⟩)) rfl rfl (by decide +kernel) rfl (fun _ _ => exec_index_slice rfl rfl rfl Try.underlying61 hti hts hkn) hS0 ?_; simp only [List.setIfInBounds_toArray, List.set_cons_succ, List.set_cons_zero]
    refine reg_take 15 (v := .pointer (some ⟨b, 0 + k * 64 + m / 8 * 1, none⟩)) rfl rfl (by decide +kernel) rfl (fun _ _ => exec_index_array rfl rfl rfl Try.underlying72 hti5 hts5 hm8) hS0 ?_; simp only [List.setIfInBounds_toArray, List.set_cons_succ, List.set_cons_zero]
    refine reg_do_last 16 (w.drew.setCell ⟨b, 0 + k * 64 + m / 8 * 1, none⟩ (.int .u8 ((x ^^^ 1 <<< UInt8.ofNat (m % 8) : UInt8).toNat : Int))) rfl rfl (by decide +kernel) rfl (exec_store_cell rfl rfl rfl hti5 hts5 rfl hcell hfr) ?_
    have hS1 := H2.out.drew.setCell (i := 0 + k * 64 + m / 8 * 1) (.int .u8 ((x ^^^ 1 <<< UInt8.ofNat (m % 8) : UInt8).toNat : Int))
    have hsm : Same w (w.drew.setCell ⟨b, 0 + k * 64 + m / 8 * 1, none⟩ (.int .u8 ((x ^^^ 1 <<< UInt8.ofNat (m % 8) : UInt8).toNat : Int))) := ((Same.refl w).drew).setCell _ _
    generalize w.drew.setCell ⟨b, 0 + k * 64 + m / 8 * 1, none⟩ (.int .u8 ((x ^^^ 1 <<< UInt8.ofNat (m % 8) : UInt8).toNat : Int)) = w1 at hS1 hsm ⊢
    clear q0 q1 q2 hcell hfr
    have hsp := hS1.perm (show _ = pts p (.cells #[.slice (some ⟨b, 0, none⟩) D.n cap, .map (some cb), .map (some ab)] TD (0, 0)) * (pts b (.cells (dc.setIfInBounds (0 + k * 64 + m / 8 * 1) (.int .u8 ((x ^^^ 1 <<< UInt8.ofNat (m % 8) : UInt8).toNat : Int))) TS (0, 0)) * (pts cb (.map es ck) * (pts ab (.map es2 ck2) * F))) from by ac_rfl)
    obtain ⟨q0, q1, q2⟩ := disk_cells hsp
    have hplt := hsp.lt
    have hcb : w1.heap[cb]? = some (.map es ck) := (hsp.right.right).block
    have hl0 := run_lookup_ok (P := Try.prog) (w := w1) Try.underlying62 Try.underlying3 (zeroTS w1) hcb HM.out (k : Int)
    have hlk0 := HK.out (k : Int)
    rw [if_pos h2.1] at hlk0
    simp only [Int.toNat_natCast] at hlk0
    have HS := Lib.hid hsp
    have HSM := Lib.hid hsm
    clear hsp hS1 hsm hcb
    cases hca : D.cache k with
    | none =>
      rw [hca] at hlk0
      rw [hlk0] at hl0
      simp only [Option.map_none, Option.getD_none, Option.isSome_none] at hl0
      have HC := Lib.hid hca
      clear hlk0 hca
      go_wp2_with (first
        | ((with_reducible (refine wpList_alloc_zero ?_ TS ?_ _ (zeroTS _) ?_)); rfl; rfl)
        | ((with_reducible (apply wp_store_sec zsec_length zsec_length)); rfl; rfl; rfl; rfl))
      go_ret
      refine ⟨rfl, HSM.out.alloc _, ?_⟩
      have e : (D.rot (k : Int) (m : Int)).1 = { D with dur := fupd D.dur k (DiskM.flip (D.dur k) m), cache := fupd D.cache k none } := by
        unfold DiskM.rot; rw [if_pos ⟨HH.out, hm1, hm2⟩]; simp only [Int.toNat_natCast, HC.out, Option.map_none]
      have hP := HW'.out
      rw [e, fupd_self HC.out] at hP
      rw [e, fupd_self HC.out]
      have hS4 := HS.out.allocKeep (.cells (secA zsec) TS)
      refine diskAt_iff.2 ⟨.slice (some ⟨b, 0, none⟩) D.n cap, cb, ab, es, ck, _, es2, ck2, _, ⟨hP, HM.out, HK.out, HM2.out, HK2.out⟩, ?_⟩
      refine Sat.perm ((durAt_iff (by omega)).2 ⟨b, cap, _, ⟨rfl, hcap, by rw [Array.size_setIfInBounds]; exact hdc, ?_⟩, hS4.perm (show _ = pts b (.cells (dc.setIfInBounds (0 + k * 64 + m / 8 * 1) (.int .u8 ((x ^^^ 1 <<< UInt8.ofNat (m % 8) : UInt8).toNat : Int))) TS (0, 0)) * (pts p (.cells #[.slice (some ⟨b, 0, none⟩) D.n cap, .map (some cb), .map (some ab)] TD (0, 0)) * (pts cb (.map es ck) * (pts ab (.map es2 ck2) * F))) from by ac_rfl)⟩) (by ac_rfl)
      rw [show 0 + k * 64 + m / 8 * 1 = k * 64 + m / 8 by omega]
      exact durC_set HD.out hdc hcap HW.out.dur hkn hm8 _ _ (by rw [secL_flip, HX.out]; rfl)
    | some s =>
      rw [hca] at hlk0
      rw [hlk0] at hl0
      simp only [Option.map_some, Option.getD_some, Option.isSome_some] at hl0
      have HC := Lib.hid hca
      have hsl := (HW.out.cache k s hca).2
      have HSL := Lib.hid hsl
      clear hlk0 hca
      go_wp2_with (first
        | ((with_reducible (refine wpList_alloc_zero ?_ TS ?_ _ (zeroTS _) ?_)); rfl; rfl)
        | ((with_reducible (apply wp_store_sec zsec_length hsl)); rfl; rfl; rfl; rfl))
      obtain ⟨y, hy⟩ : ∃ y, y = s.getD (m / 8) 0 := ⟨_, rfl⟩
      have HY := Lib.hid hy
      have hS2 := HS.out.alloc (.cells (secA s) TS)
      have hsm2 := HSM.out.alloc (.cells (secA s) TS)
      generalize w1.alloc (.cells (secA s) TS) = w2 at hS2 hsm2 ⊢
      generalize w1.heap.size = N at hS2 ⊢
      have hcell : w2.cell? ⟨N, 0 + m / 8 * 1, none⟩ = some (.int .u8 (y.toNat : Int)) := by
        rw [cells_at hS2.block, hy, show 0 + m / 8 * 1 = m / 8 by omega]
        have := secL_at hsl hm8
        rw [← secA_toList] at this
        simpa [byteV] using this
      have hfr : w2.frozen? ⟨N, 0 + m / 8 * 1, none⟩ = false := thawed_at hS2.block _
      clear hy q0 q1 q2 hplt
      have hS0 : w2.drew.cell? ⟨N, 0 + m / 8 * 1, none⟩ = some (.int .u8 (y.toNat : Int)) := hcell
      refine reg_begin (fun w' => w'.cell? ⟨N, 0 + m / 8 * 1, none⟩ = some (.int .u8 (y.toNat : Int))) (by kernel_rfl) ?_
      (apply reg_take 0 rfl rfl (by decide +kernel) rfl); (intro w' hw'; go_simp; rfl); exact hS0; simp only [List.setIfInBounds_toArray, List.set_cons_succ, List.set_cons_zero]
      refine reg_take 1 (v := .int .i64 ((m / 8 : Nat) : Int)) rfl rfl (by decide +kernel) rfl (fun w' _ => exec_binop rfl rfl rfl rfl (run_quo_nat _ m 8 (by omega) (by decide) w')) hS0 ?_; simp only [List.setIfInBounds_toArray, List.set_cons_succ, List.set_cons_zero]
      refine reg_take 2 (v := .pointer (some ⟨N, 0 + m / 8 * 1, none⟩)) rfl rfl (by decide +kernel) rfl (fun _ _ => exec_index_array rfl rfl rfl Try.underlying72 hti5 hts5 hm8) hS0 ?_; simp only [List.setIfInBounds_toArray, List.set_cons_succ, List.set_cons_zero]
      refine reg_take 3 (v := .int .u8 (y.toNat : Int)) rfl rfl (by decide +kernel) rfl (fun _ h => exec_load_cell rfl rfl Try.underlying5 rfl h) hS0 ?_; simp only [List.setIfInBounds_toArray, List.set_cons_succ, List.set_cons_zero]
      (apply reg_take 4 rfl rfl (by decide +kernel) rfl); (intro w' hw'; go_simp; rfl); exact hS0; simp only [List.setIfInBounds_toArray, List.set_cons_succ, List.set_cons_zero]
      refine reg_take 5 (v := .int .i64 ((m % 8 : Nat) : Int)) rfl rfl (by decide +kernel) rfl (fun w' _ => exec_binop rfl rfl rfl rfl (run_rem_nat _ m 8 (by decide) w')) hS0 ?_; simp only [List.setIfInBounds_toArray, List.set_cons_succ, List.set_cons_zero]
      refine reg_take 6 (v := .int .u8 ((1 <<< UInt8.ofNat (m % 8) : UInt8).toNat : Int)) rfl rfl (by decide +kernel) rfl (fun w' _ => exec_binop rfl rfl rfl rfl (run_shl_u8 _ (m % 8) (Nat.mod_lt _ (by decide)) w')) hS0 ?_; simp only [List.setIfInBounds_toArray, List.set_cons_succ, List.set_cons_zero]
      refine reg_take 7 (v := .int .u8 ((y ^^^ 1 <<< UInt8.ofNat (m % 8) : UInt8).toNat : Int)) rfl rfl (by decide +kernel) rfl (fun w' _ => exec_binop rfl rfl rfl rfl (run_xor_u8 _ y _ w')) hS0 ?_; simp only [List.setIfInBounds_toArray, List.set_cons_succ, List.set_cons_zero]
      refine reg_take 8 (v := .pointer (some ⟨N, 0 + m / 8 * 1, none⟩)) rfl rfl (by decide +kernel) rfl (fun _ _ => exec_index_array rfl rfl rfl Try.underlying72 hti5 hts5 hm8) hS0 ?_; simp only [List.setIfInBounds_toArray, List.set_cons_succ, List.set_cons_zero]
      refine reg_do_last 9 (w2.drew.setCell ⟨N, 0 + m / 8 * 1, none⟩ (.int .u8 ((y ^^^ 1 <<< UInt8.ofNat (m % 8) : UInt8).toNat : Int))) rfl rfl (by decide +kernel) rfl (exec_store_cell rfl rfl rfl hti5 hts5 rfl hcell hfr) ?_
      have hS3 := hS2.drew.setCell (i := 0 + m / 8 * 1) (.int .u8 ((y ^^^ 1 <<< UInt8.ofNat (m % 8) : UInt8).toNat : Int))
      have hsm3 := hsm2.drew.setCell ⟨N, 0 + m / 8 * 1, none⟩ (.int .u8 ((y ^^^ 1 <<< UInt8.ofNat (m % 8) : UInt8).toNat : Int))
      generalize w2.drew.setCell ⟨N, 0 + m / 8 * 1, none⟩ (.int .u8 ((y ^^^ 1 <<< UInt8.ofNat (m % 8) : UInt8).toNat : Int)) = w3 at hS3 hsm3 ⊢
      have hfl : (secA s).setIfInBounds (0 + m / 8 * 1) (.int .u8 ((y ^^^ 1 <<< UInt8.ofNat (m % 8) : UInt8).toNat : Int)) = secA (DiskM.flip s m) := by rw [secA_flip, HY.out]; rfl
      rw [hfl] at hS3
      clear hfl hcell hfr hS0 hS2 hsm2
      have hfll : (DiskM.flip s m).length = 64 := by rw [DiskM.flip_length]; exact hsl
      have hrow : w3.rangeAt N 0 (secL (DiskM.flip s m)) := by
        intro j u hu
        rw [cells_at hS3.block, Nat.zero_add, ← hu, ← secA_toList]; simp
      obtain ⟨q0, q1, q2⟩ := disk_cells hS3.right
      have hScb := hS3.right.perm (show _ = pts cb (.map es ck) * (pts p (.cells #[.slice (some ⟨b, 0, none⟩) D.n cap, .map (some cb), .map (some ab)] TD (0, 0)) * (pts b (.cells (dc.setIfInBounds (0 + k * 64 + m / 8 * 1) (.int .u8 ((x ^^^ 1 <<< UInt8.ofNat (m % 8) : UInt8).toNat : Int))) TS (0, 0)) * (pts ab (.map es2 ck2) * F))) from by ac_rfl)
      obtain ⟨es4, ck4, hup, hM4⟩ := run_mapUpdate_kv (P := Try.prog) (w := w3.drew) Try.underlying62 Try.underlying3 hScb.drew.block HM.out (k : Int) (secV (DiskM.flip s m))
      have HM4 := Lib.hid hM4
      have HS3 := Lib.hid hScb
      have HSM3 := Lib.hid hsm3
      clear hM4 hScb hS3 hsm3
      go_upto_region 7 with (fail)
      have hS0 : w3.drew.cell? ⟨p, 1, none⟩ = some (.map (some cb)) ∧ w3.drew.rangeAt N 0 (secL (DiskM.flip s m)) := ⟨q1, hrow⟩
      refine reg_begin (fun w' => w'.cell? ⟨p, 1, none⟩ = some (.map (some cb)) ∧ w'.rangeAt N 0 (secL (DiskM.flip s m))) (by kernel_rfl) ?_
      (apply reg_take 0 rfl rfl (by decide +kernel) rfl); (rintro w' ⟨h1, _⟩; go_simp; rfl); exact hS0; simp only [List.setIfInBounds_toArray, List.set_cons_succ, List.set_cons_zero]
      (apply reg_take 1 rfl rfl (by decide +kernel) rfl); (rintro w' ⟨h1, _⟩; go_simp; rfl); exact hS0; simp only [List.setIfInBounds_toArray, List.set_cons_succ, List.set_cons_zero]
      (apply reg_take 2 rfl rfl (by decide +kernel) rfl); (rintro w' ⟨h1, _⟩; go_simp; rfl); exact hS0; simp only [List.setIfInBounds_toArray, List.set_cons_succ, List.set_cons_zero]
      (apply reg_take 3 rfl rfl (by decide +kernel) rfl); (rintro w' ⟨h1, _⟩; go_simp; rfl); exact hS0; simp only [List.setIfInBounds_toArray, List.set_cons_succ, List.set_cons_zero]
      (apply reg_take 4 rfl rfl (by decide +kernel) rfl); (rintro w' ⟨h1, _⟩; go_simp; rfl); exact hS0; simp only [List.setIfInBounds_toArray, List.set_cons_succ, List.set_cons_zero]
      refine reg_take 5 (v := secV (DiskM.flip s m)) rfl rfl (by decide +kernel) rfl (fun w' h => exec_load rfl rfl (run_loadAt_mid w' N 0 TS (secL (DiskM.flip s m)) _ h.2 Try.underlying72 rfl (by rw [infoTS hfll, secA_size, secL_length]))) hS0 ?_; simp only [List.setIfInBounds_toArray, List.set_cons_succ, List.set_cons_zero]
      refine reg_do_last 6 (setBlock w3.drew cb (.map es4 ck4)) rfl rfl (by decide +kernel) rfl (exec_mapUpdate rfl rfl rfl rfl hup) ?_
      clear hup hrow hS0
      go_wp2
      go_ret
      refine ⟨rfl, (HSM3.out.drew).setBlock _, ?_⟩
      have e : (D.rot (k : Int) (m : Int)).1 = { D with dur := fupd D.dur k (DiskM.flip (D.dur k) m), cache := fupd D.cache k (some (DiskM.flip s m)) } := by
        unfold DiskM.rot; rw [if_pos ⟨HH.out, hm1, hm2⟩]; simp only [Int.toNat_natCast, HC.out, Option.map_some]
      have hP := HW'.out
      rw [e] at hP ⊢
      have hS4 := (HS3.out.drew).setBlock (o' := .map es4 ck4)
      refine diskAt_iff.2 ⟨.slice (some ⟨b, 0, none⟩) D.n cap, cb, ab, es4, ck4, _, es2, ck2, _, ⟨hP, HM4.out, HK.out.upd h2.1 _, HM2.out, HK2.out⟩, ?_⟩
      refine Sat.perm ((durAt_iff (by omega)).2 ⟨b, cap, _, ⟨rfl, hcap, by rw [Array.size_setIfInBounds]; exact hdc, ?_⟩, hS4.perm (show _ = pts b (.cells (dc.setIfInBounds (0 + k * 64 + m / 8 * 1) (.int .u8 ((x ^^^ 1 <<< UInt8.ofNat (m % 8) : UInt8).toNat : Int))) TS (0, 0)) * (pts p (.cells #[.slice (some ⟨b, 0, none⟩) D.n cap, .map (some cb), .map (some ab)] TD (0, 0)) * (pts cb (.map es4 ck4) * (pts ab (.map es2 ck2) * F))) from by ac_rfl)⟩) (by ac_rfl)
      rw [show 0 + k * 64 + m / 8 * 1 = k * 64 + m / 8 by omega]
      exact durC_set HD.out hdc hcap HW.out.dur hkn hm8 _ _ (by rw [secL_flip, HX.out]; rfl)

end Go.Proofs.Ytdeblpnkpefbcaa
