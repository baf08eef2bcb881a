/- The walk over disk.Write. -/
import Derived.Test.YtdeblpnkpefbcaaDk
import Derived.Test.YtdeblpnkpefbcaaRh
import Derived.Deep.Cut
import Derived.Deep.DeepCutAuto
namespace Go.Proofs.Ytdeblpnkpefbcaa
open Go.RowKit Go.Sl Go.ChangeMaps

set_option linter.unusedSimpArgs false in
set_option maxHeartbeats 1000000 in
theorem write_any (p : Nat) (D : DiskM) (F : HProp) (i : Int) (s : List UInt8) (w : World) (hS : Sat w (diskAt TD TS p D * F)) :
    Calls Try.prog 27 #[.pointer (some ⟨p, 0, none⟩), .int .i64 i, .string ⟨s.toArray⟩] w fun e w' =>
      e = .returned (.int .i64 (D.write i s).2) ∧ Same w w' ∧ Sat w' (diskAt TD TS p (D.write i s).1 * F) := by
  obtain ⟨v, cb, ab, es, ck, l, es2, ck2, l2, ⟨hwf, hM, hK, hM2, hK2⟩, hs⟩ := diskAt_iff.1 hS
  obtain ⟨b, cap, rfl⟩ := durAt_slice hs.right
  obtain ⟨q0, q1, q2⟩ := disk_cells hs
  have hab : Sat w (pts ab (.map es2 ck2) * (pts p (.cells #[.slice b D.n cap, .map (some cb), .map (some ab)] TD (0, 0)) * (durAt TS D.n D.dur (.slice b D.n cap) * (pts cb (.map es ck) * F)))) := hs.perm (by ac_rfl)
  by_cases h : D.has i = true ∧ s.length = 64
  · have hwr : D.write i s = (D.put i.toNat s, 0) := if_pos h
    rw [hwr]
    clear hwr
    obtain ⟨h, hlen⟩ := h
    have h2 := DiskM.has_iff.1 h
    obtain ⟨k, rfl⟩ := Int.eq_ofNat_of_zero_le h2.1
    have hd : (decide (0 ≤ (k : Int)) && decide ((k : Int) < (D.n : Int))) = true := h
    have hl0 := run_lookup_ok (P := Try.prog) (w := w) (E := 3) (z := .int .i64 0) Try.underlying63 Try.underlying3 (by kernel_rfl) hab.block hM2 (k : Int)
    have hlk0 := hK2 (k : Int)
    rw [if_pos h2.1] at hlk0
    simp only [Int.toNat_natCast] at hlk0
    obtain ⟨es3, ck3, hdel, hM3⟩ := run_delete_kv (P := Try.prog) Try.underlying63 Try.underlying3 hab.block hM2 (k : Int)
    have hc1 := cell?_setMap hab.block es3 ck3
    have hf1 := frozen?_setMap hab.block es3 ck3
    have hsz : (⟨s.toArray⟩ : ByteArray).size = 64 := by show s.toArray.size = 64; simpa using hlen
    have hplt : p < (setBlock w ab (.map es3 ck3)).heap.size := by rw [size_setBlock]; exact hs.lt
    have HM := Lib.hid hM
    have hs1 := (hab.setBlock (o' := .map es3 ck3)).perm (show _ = pts cb (.map es ck) * (pts p (.cells #[.slice b D.n cap, .map (some cb), .map (some ab)] TD (0, 0)) * (durAt TS D.n D.dur (.slice b D.n cap) * (pts ab (.map es3 ck3) * F))) from by ac_rfl)
    have HS1 := Lib.hid hs1
    clear hs1
    have HP := Lib.hid (hwf.put (i := k) (s := s) (by omega) hlen)
    have HK := Lib.hid hK
    have hK2d : KvInt (del l2 (k : Int)) (fupd D.armed k none) := hK2.del hM2.nodup h2.1
    have HK2 := Lib.hid hK2d
    clear hK2d
    have HL := Lib.hid hlen
    have HM3 := Lib.hid hM3
    cases har : D.armed k with
    | none =>
      have HA := Lib.hid har
      rw [har] at hlk0
      rw [hlk0] at hl0
      simp only [Option.map_none, Option.getD_none, Option.isSome_none] at hl0
      clear hlk0 har hK hM hM2 hK2 hwf hs hab hS h hM3 hlen
      go_enter Try.func27, Try.ntmps27
      go_upto_region 7 with (first
        | (go_at_call 41; refine (has_any _ _ _ _ _ _ q0).mono ?_; rintro e w' ⟨rfl, rfl⟩)
        | (at_delete; apply wpList_delete_run (hrun := hdel); rfl; rfl; rfl; rfl))
      have hk1 : ((k : Int) != -1) = true := by rw [bne_iff_ne]; omega
      go_upto_region 8 with (fail)
      refine reg_begin (fun w' => w'.cell? ⟨p, 1, none⟩ = some (.map (some cb))) (by kernel_rfl) ?_
      (apply reg_take 0 rfl rfl (by decide +kernel) rfl); (intro w' hw'; go_simp; rfl); go_simp; simp only [List.setIfInBounds_toArray, List.set_cons_succ, List.set_cons_zero]
      (apply reg_take 1 rfl rfl (by decide +kernel) rfl); (intro w' hw'; go_simp; rfl); go_simp; simp only [List.setIfInBounds_toArray, List.set_cons_succ, List.set_cons_zero]
      (apply reg_take 2 rfl rfl (by decide +kernel) rfl); (intro w' hw'; go_simp; rfl); go_simp; simp only [List.setIfInBounds_toArray, List.set_cons_succ, List.set_cons_zero]
      (apply reg_take 3 rfl rfl (by decide +kernel) rfl); (intro w' hw'; go_simp; rfl); go_simp; simp only [List.setIfInBounds_toArray, List.set_cons_succ, List.set_cons_zero]
      (apply reg_take 4 rfl rfl (by decide +kernel) rfl); (intro w' hw'; go_simp; rfl); go_simp; simp only [List.setIfInBounds_toArray, List.set_cons_succ, List.set_cons_zero]
      (apply reg_take 5 rfl rfl (by decide +kernel) rfl); (intro w' hw'; go_simp; rfl); go_simp; simp only [List.setIfInBounds_toArray, List.set_cons_succ, List.set_cons_zero]
      obtain ⟨W, cap1, hcv, hra, hbl⟩ := conv_sec HL.out (setBlock w ab (.map es3 ck3)).drew
      have hq1 : W.cell? ⟨p, 1, none⟩ = some (.map (some cb)) := by rw [hbl.cell (p := ⟨p, 1, none⟩) (by simpa using hplt)]; exact (hc1 _).trans q1
      refine reg_run 6 (.slice (some ⟨(setBlock w ab (.map es3 ck3)).heap.size, 0, none⟩) 64 cap1) W rfl rfl (by decide +kernel) rfl (by go_simp) hq1 ?_
      simp only [List.setIfInBounds_toArray, List.set_cons_succ, List.set_cons_zero]
      refine reg_take 7 (v := .pointer (some ⟨(setBlock w ab (.map es3 ck3)).heap.size, 0, none⟩)) rfl rfl (by decide +kernel) rfl (fun _ _ => exec_arrayAt rfl rfl Try.underlying72 (Nat.le_refl 64)) hq1 ?_
      simp only [List.setIfInBounds_toArray, List.set_cons_succ, List.set_cons_zero]
      refine reg_run 8 (secV s) W rfl rfl (by decide +kernel) rfl (exec_load rfl rfl (run_loadAt_mid W _ 0 TS (secL s) _ hra Try.underlying72 rfl (by rw [infoTS HL.out, secA_size, secL_length]))) hq1 ?_
      simp only [List.setIfInBounds_toArray, List.set_cons_succ, List.set_cons_zero]
      have hSW := (HS1.out.drew.below hbl)
      obtain ⟨es4, ck4, hup, hM4⟩ := run_mapUpdate_kv (P := Try.prog) Try.underlying62 Try.underlying3 hSW.block HM.out (k : Int) (secV s)
      have hq2 : (setBlock W cb (.map es4 ck4)).cell? ⟨p, 1, none⟩ = some (.map (some cb)) := (cell?_setMap hSW.block es4 ck4 _).trans hq1
      refine reg_do 9 (setBlock W cb (.map es4 ck4)) rfl rfl (by decide +kernel) rfl (exec_mapUpdate rfl rfl rfl rfl hup) hq2 ?_
      refine reg_done (by decide +kernel) ?_
      clear hup
      go_wp2
      go_ret
      refine ⟨rfl, ?_, ?_⟩
      · exact ((((Same.refl w).setBlock _).drew).below hbl).setBlock _
      ·
        have e : D.put k s = { D with cache := fupd D.cache k (some s) } := by unfold DiskM.put; rw [HA.out]
        have hP := HP.out
        rw [e] at hP
        have hK2' := HK2.out
        rw [fupd_self HA.out] at hK2'
        rw [Int.toNat_natCast, e]
        exact diskAt_iff.2 ⟨.slice b D.n cap, cb, ab, es4, ck4, _, es3, ck3, _, ⟨hP, hM4, HK.out.upd h2.1 s, HM3.out, hK2'⟩, (hSW.setBlock (o' := .map es4 ck4)).perm (by ac_rfl)⟩
    | some j =>
      have ha := hwf.armed k j har
      by_cases hj : j = -1
      · subst hj
        have HA := Lib.hid har
        rw [har] at hlk0
        rw [hlk0] at hl0
        simp only [Option.map_some, Option.getD_some, Option.isSome_some] at hl0
        clear hlk0 har hK hM hM2 hK2 hwf hs hab hS h hM3 hlen ha
        go_enter Try.func27, Try.ntmps27
        go_wp2_with (first
          | (go_at_call 41; refine (has_any _ _ _ _ _ _ q0).mono ?_; rintro e w' ⟨rfl, rfl⟩)
          | (at_delete; apply wpList_delete_run (hrun := hdel); rfl; rfl; rfl; rfl))
        go_ret
        refine ⟨rfl, (Same.refl w).setBlock _, ?_⟩
        have e : D.put k s = { D with armed := fupd D.armed k none } := by unfold DiskM.put; rw [HA.out]; simp
        have hP := HP.out
        rw [e] at hP
        rw [Int.toNat_natCast, e]
        exact diskAt_iff.2 ⟨.slice b D.n cap, cb, ab, es, ck, _, es3, ck3, _, ⟨hP, HM.out, HK.out, HM3.out, HK2.out⟩, HS1.out.perm (by ac_rfl)⟩
      have h0j : 0 ≤ j := by omega
      obtain ⟨j, rfl⟩ := Int.eq_ofNat_of_zero_le h0j
      have hk1 : ((j : Int) != -1) = true := by rw [bne_iff_ne]; omega
      have HA := Lib.hid har
      rw [har] at hlk0
      rw [hlk0] at hl0
      simp only [Option.map_some, Option.getD_some, Option.isSome_some] at hl0
      clear hlk0 har hK hM hM2 hK2 hwf hs hab hS h hM3 hlen ha hj
      go_enter Try.func27, Try.ntmps27
      go_upto_region 7 with (first
        | (go_at_call 41; refine (has_any _ _ _ _ _ _ q0).mono ?_; rintro e w' ⟨rfl, rfl⟩)
        | (at_delete; apply wpList_delete_run (hrun := hdel); rfl; rfl; rfl; rfl))
      
      go_upto_region 8 with (fail)
      refine reg_begin (fun w' => w'.cell? ⟨p, 1, none⟩ = some (.map (some cb))) (by kernel_rfl) ?_
      (apply reg_take 0 rfl rfl (by decide +kernel) rfl); (intro w' hw'; go_simp; rfl); go_simp; simp only [List.setIfInBounds_toArray, List.set_cons_succ, List.set_cons_zero]
      (apply reg_take 1 rfl rfl (by decide +kernel) rfl); (intro w' hw'; go_simp; rfl); go_simp; simp only [List.setIfInBounds_toArray, List.set_cons_succ, List.set_cons_zero]
      (apply reg_take 2 rfl rfl (by decide +kernel) rfl); (intro w' hw'; go_simp; rfl); go_simp; simp only [List.setIfInBounds_toArray, List.set_cons_succ, List.set_cons_zero]
      (apply reg_take 3 rfl rfl (by decide +kernel) rfl); (intro w' hw'; go_simp; rfl); go_simp; simp only [List.setIfInBounds_toArray, List.set_cons_succ, List.set_cons_zero]
      (apply reg_take 4 rfl rfl (by decide +kernel) rfl); (intro w' hw'; go_simp; rfl); go_simp; simp only [List.setIfInBounds_toArray, List.set_cons_succ, List.set_cons_zero]
      (apply reg_take 5 rfl rfl (by decide +kernel) rfl); (intro w' hw'; go_simp; rfl); go_simp; simp only [List.setIfInBounds_toArray, List.set_cons_succ, List.set_cons_zero]
      obtain ⟨W, cap1, hcv, hra, hbl⟩ := conv_sec HL.out (setBlock w ab (.map es3 ck3)).drew
      have hq1 : W.cell? ⟨p, 1, none⟩ = some (.map (some cb)) := by rw [hbl.cell (p := ⟨p, 1, none⟩) (by simpa using hplt)]; exact (hc1 _).trans q1
      refine reg_run 6 (.slice (some ⟨(setBlock w ab (.map es3 ck3)).heap.size, 0, none⟩) 64 cap1) W rfl rfl (by decide +kernel) rfl (by go_simp) hq1 ?_
      simp only [List.setIfInBounds_toArray, List.set_cons_succ, List.set_cons_zero]
      refine reg_take 7 (v := .pointer (some ⟨(setBlock w ab (.map es3 ck3)).heap.size, 0, none⟩)) rfl rfl (by decide +kernel) rfl (fun _ _ => exec_arrayAt rfl rfl Try.underlying72 (Nat.le_refl 64)) hq1 ?_
      simp only [List.setIfInBounds_toArray, List.set_cons_succ, List.set_cons_zero]
      refine reg_run 8 (secV s) W rfl rfl (by decide +kernel) rfl (exec_load rfl rfl (run_loadAt_mid W _ 0 TS (secL s) _ hra Try.underlying72 rfl (by rw [infoTS HL.out, secA_size, secL_length]))) hq1 ?_
      simp only [List.setIfInBounds_toArray, List.set_cons_succ, List.set_cons_zero]
      have hSW := (HS1.out.drew.below hbl)
      obtain ⟨es4, ck4, hup, hM4⟩ := run_mapUpdate_kv (P := Try.prog) Try.underlying62 Try.underlying3 hSW.block HM.out (j : Int) (secV s)
      have hq2 : (setBlock W cb (.map es4 ck4)).cell? ⟨p, 1, none⟩ = some (.map (some cb)) := (cell?_setMap hSW.block es4 ck4 _).trans hq1
      refine reg_do 9 (setBlock W cb (.map es4 ck4)) rfl rfl (by decide +kernel) rfl (exec_mapUpdate rfl rfl rfl rfl hup) hq2 ?_
      refine reg_done (by decide +kernel) ?_
      clear hup
      go_wp2
      go_ret
      refine ⟨rfl, ?_, ?_⟩
      · exact ((((Same.refl w).setBlock _).drew).below hbl).setBlock _
      ·
        have e : D.put k s = { D with armed := fupd D.armed k none, cache := fupd D.cache j (some s) } := by
          unfold DiskM.put; rw [HA.out]; simp only [show ¬ ((j : Int) = -1) by omega, if_false, Int.toNat_natCast]
        have hP := HP.out
        rw [e] at hP
        rw [Int.toNat_natCast, e]
        exact diskAt_iff.2 ⟨.slice b D.n cap, cb, ab, es4, ck4, _, es3, ck3, _, ⟨hP, hM4, HK.out.upd (by omega) s, HM3.out, HK2.out⟩, (hSW.setBlock (o' := .map es4 ck4)).perm (by ac_rfl)⟩
  · have hwr : D.write i s = (D, 1) := if_neg h
    rw [hwr]
    have HS := Lib.hid hS
    by_cases hh : D.has i = true
    · have hd : (decide (0 ≤ i) && decide (i < (D.n : Int))) = true := hh
      have hsz : ((((⟨s.toArray⟩ : ByteArray).size : Nat) : Int) != 64) = true := by
        rw [bne_iff_ne]
        intro hc
        have : s.toArray.size = 64 := by have : (⟨s.toArray⟩ : ByteArray).size = 64 := by omega
                                         exact this
        exact h ⟨hh, by simpa using this⟩
      obtain ⟨m, hm⟩ : ∃ m, (⟨s.toArray⟩ : ByteArray).size = m := ⟨_, rfl⟩
      rw [hm] at hsz
      clear hwr h hS hs hab hM hK hM2 hK2 hwf hh
      go_enter Try.func27, Try.ntmps27
      go_wp2_with (go_at_call 41; refine (has_any _ _ _ _ _ _ q0).mono ?_; rintro e w' ⟨rfl, rfl⟩)
      go_ret
      exact ⟨rfl, Same.refl w, HS.out⟩
    · have hd : (decide (0 ≤ i) && decide (i < (D.n : Int))) = false := by simpa [DiskM.has] using hh
      clear hwr h hS hs hab hM hK hM2 hK2 hwf hh
      go_enter Try.func27, Try.ntmps27
      go_wp2_with (go_at_call 41; refine (has_any _ _ _ _ _ _ q0).mono ?_; rintro e w' ⟨rfl, rfl⟩)
      go_ret
      exact ⟨rfl, Same.refl w, HS.out⟩

end Go.Proofs.Ytdeblpnkpefbcaa
