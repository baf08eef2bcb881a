import Derived.Test.YtogmkbhbmmgidaaGreatP03
import Derived.Test.YtogmkbhbmmgidaaGreatP04
import Derived.Deep.Cut
import Derived.Deep.DeepCutAuto
import Derived.Test.YtogmkbhbmmgidaaGreatP11
import Derived.Test.YtogmkbhbmmgidaaGreatP09
/- Part 12 of a proof; the last part says what is proved. -/
section
namespace Go.Proofs.YtogmkbhbmmgidaaGreat
open Go.RowKit Go.Sl Go.ChangeMaps
set_option linter.unusedSimpArgs false in
set_option maxHeartbeats 1000000 in
theorem write_any (p : Nat) (D : DiskM) (F : HProp) (i : Int) (s : List UInt8) (w : World) (hS : Sat w (diskAt TD TS p D * F)) :
    Calls Tryz.prog 60 #[.pointer (some ⟨p, 0, none⟩), .int .i64 i, .string ⟨s.toArray⟩] w fun e w' =>
      e = .returned (.int .i64 (D.write i s).2) ∧ Same w w' ∧ Sat w' (diskAt TD TS p (D.write i s).1 * F) := by
  obtain ⟨v, cb, ab, es, ck, l, es2, ck2, l2, ⟨hwf, hM, hK, hM2, hK2⟩, hs⟩ := diskAt_iff.1 hS
  obtain ⟨b, cap, rfl⟩ := durAt_slice hs.right
  obtain ⟨q0, q1, q2⟩ := disk_cells hs
  have hab : Sat w (pts ab (.map es2 ck2) * (pts p (.cells #[.slice b D.n cap, .map (some cb), .map (some ab)] TD (0, 0)) * (durAt TS D.n D.dur (.slice b D.n cap) * (pts cb (.map es ck) * F)))) := hs.perm (by ac_rfl)
  by_cases h : D.has i = true ∧ s.length = 64
  · have hwr : D.write i s = (D.put i.toNat s, 0) := if_pos h
    rw [hwr]
    clear hwr
    obtain ⟨h, hlen⟩ := h
    have h2 := DiskM.has_iff.1 h
    obtain ⟨k, rfl⟩ := Int.eq_ofNat_of_zero_le h2.1
    have hd : (decide (0 ≤ (k : Int)) && decide ((k : Int) < (D.n : Int))) = true := h
    have hl0 := run_lookup_ok (P := Tryz.prog) (w := w) (E := 3) (z := .int .i64 0) Tryz.underlying96 Tryz.underlying3 (by kernel_rfl) hab.block hM2 (k : Int)
    have hlk0 := hK2 (k : Int)
    rw [if_pos h2.1] at hlk0
    simp only [Int.toNat_natCast] at hlk0
    obtain ⟨es3, ck3, hdel, hM3⟩ := run_delete_kv (P := Tryz.prog) Tryz.underlying96 Tryz.underlying3 hab.block hM2 (k : Int)
    have hc1 := cell?_setMap hab.block es3 ck3
    have hf1 := frozen?_setMap hab.block es3 ck3
    have hsz : (⟨s.toArray⟩ : ByteArray).size = 64 := by show s.toArray.size = 64; simpa using hlen
    have hplt : p < (setBlock w ab (.map es3 ck3)).heap.size := by rw [size_setBlock]; exact hs.lt
    have HM := Lib.hid hM
    have hs1 := (hab.setBlock (o' := .map es3 ck3)).perm (show _ = pts cb (.map es ck) * (pts p (.cells #[.slice b D.n cap, .map (some cb), .map (some ab)] TD (0, 0)) * (durAt TS D.n D.dur (.slice b D.n cap) * (pts ab (.map es3 ck3) * F))) from by ac_rfl)
    have HS1 := Lib.hid hs1
    clear hs1
    have HP := Lib.hid (hwf.put (i := k) (s := s) (by omega) hlen)
    have HK := Lib.hid hK
    have hK2d : KvInt (del l2 (k : Int)) (fupd D.armed k none) := hK2.del hM2.nodup h2.1
    have HK2 := Lib.hid hK2d
    clear hK2d
    have HL := Lib.hid hlen
    have HM3 := Lib.hid hM3
    cases har : D.armed k with
    | none =>
      have HA := Lib.hid har
      rw [har] at hlk0
      rw [hlk0] at hl0
      simp only [Option.map_none, Option.getD_none, Option.isSome_none] at hl0
      clear hlk0 har hK hM hM2 hK2 hwf hs hab hS h hM3 hlen
      go_enter Tryz.func60, Tryz.ntmps60
      go_upto_region 7 with (first
        | (go_at_call 93; refine (has_any _ _ _ _ _ _ q0).mono ?_; rintro e w' ⟨rfl, rfl⟩)
        | (at_delete; apply wpList_delete_run (hrun := hdel); rfl; rfl; rfl; rfl))
      have hk1 : ((k : Int) != -1) = true := by rw [bne_iff_ne]; omega
      go_upto_region 8 with (fail)
      refine reg_begin (fun w' => w'.cell? ⟨p, 1, none⟩ = some (.map (some cb))) (by kernel_rfl) ?_
      (apply reg_take 0 rfl rfl (by decide +kernel) rfl); (intro w' hw'; go_simp; rfl); go_simp; simp only [List.setIfInBounds_toArray, List.set_cons_succ, List.set_cons_zero]
      (apply reg_take 1 rfl rfl (by decide +kernel) rfl); (intro w' hw'; go_simp; rfl); go_simp; simp only [List.setIfInBounds_toArray, List.set_cons_succ, List.set_cons_zero]
      (apply reg_take 2 rfl rfl (by decide +kernel) rfl); (intro w' hw'; go_simp; rfl); go_simp; simp only [List.setIfInBounds_toArray, List.set_cons_succ, List.set_cons_zero]
      (apply reg_take 3 rfl rfl (by decide +kernel) rfl); (intro w' hw'; go_simp; rfl); go_simp; simp only [List.setIfInBounds_toArray, List.set_cons_succ, List.set_cons_zero]
      (apply reg_take 4 rfl rfl (by decide +kernel) rfl); (intro w' hw'; go_simp; rfl); go_simp; simp only [List.setIfInBounds_toArray, List.set_cons_succ, List.set_cons_zero]
      (apply reg_take 5 rfl rfl (by decide +kernel) rfl); (intro w' hw'; go_simp; rfl); go_simp; simp only [List.setIfInBounds_toArray, List.set_cons_succ, List.set_cons_zero]
      obtain ⟨W, cap1, hcv, hra, hbl⟩ := conv_sec HL.out (setBlock w ab (.map es3 ck3)).drew
      have hq1 : W.cell? ⟨p, 1, none⟩ = some (.map (some cb)) := by rw [hbl.cell (p := ⟨p, 1, none⟩) (by simpa using hplt)]; exact (hc1 _).trans q1
      refine reg_run 6 (.slice (some ⟨(setBlock w ab (.map es3 ck3)).heap.size, 0, none⟩) 64 cap1) W rfl rfl (by decide +kernel) rfl (by go_simp) hq1 ?_
      simp only [List.setIfInBounds_toArray, List.set_cons_succ, List.set_cons_zero]
      refine reg_take 7 (v := .pointer (some ⟨(setBlock w ab (.map es3 ck3)).heap.size, 0, none⟩)) rfl rfl (by decide +kernel) rfl (fun _ _ => exec_arrayAt rfl rfl Tryz.underlying106 (Nat.le_refl 64)) hq1 ?_
      simp only [List.setIfInBounds_toArray, List.set_cons_succ, List.set_cons_zero]
      refine reg_run 8 (secV s) W rfl rfl (by decide +kernel) rfl (exec_load rfl rfl (run_loadAt_mid W _ 0 TS (secL s) _ hra Tryz.underlying106 rfl (by rw [infoTS HL.out, secA_size, secL_length]))) hq1 ?_
      simp only [List.setIfInBounds_toArray, List.set_cons_succ, List.set_cons_zero]
      have hSW := (HS1.out.drew.below hbl)
      obtain ⟨es4, ck4, hup, hM4⟩ := run_mapUpdate_kv (P := Tryz.prog) Tryz.underlying95 Tryz.underlying3 hSW.block HM.out (k : Int) (secV s)
      have hq2 : (setBlock W cb (.map es4 ck4)).cell? ⟨p, 1, none⟩ = some (.map (some cb)) := (cell?_setMap hSW.block es4 ck4 _).trans hq1
      refine reg_do 9 (setBlock W cb (.map es4 ck4)) rfl rfl (by decide +kernel) rfl (exec_mapUpdate rfl rfl rfl rfl hup) hq2 ?_
      refine reg_done (by decide +kernel) ?_
      clear hup
      go_wp2
      go_ret
      refine ⟨rfl, ?_, ?_⟩
      · exact ((((Same.refl w).setBlock _).drew).below hbl).setBlock _
      ·
        have e : D.put k s = { D with cache := fupd D.cache k (some s) } := by unfold DiskM.put; rw [HA.out]
        have hP := HP.out
        rw [e] at hP
        have hK2' := HK2.out
        rw [fupd_self HA.out] at hK2'
        rw [Int.toNat_natCast, e]
        exact diskAt_iff.2 ⟨.slice b D.n cap, cb, ab, es4, ck4, _, es3, ck3, _, ⟨hP, hM4, HK.out.upd h2.1 s, HM3.out, hK2'⟩, (hSW.setBlock (o' := .map es4 ck4)).perm (by ac_rfl)⟩
    | some j =>
      have ha := hwf.armed k j har
      by_cases hj : j = -1
      · subst hj
        have HA := Lib.hid har
        rw [har] at hlk0
        rw [hlk0] at hl0
        simp only [Option.map_some, Option.getD_some, Option.isSome_some] at hl0
        clear hlk0 har hK hM hM2 hK2 hwf hs hab hS h hM3 hlen ha
        go_enter Tryz.func60, Tryz.ntmps60
        go_wp2_with (first
          | (go_at_call 93; refine (has_any _ _ _ _ _ _ q0).mono ?_; rintro e w' ⟨rfl, rfl⟩)
          | (at_delete; apply wpList_delete_run (hrun := hdel); rfl; rfl; rfl; rfl))
        go_ret
        refine ⟨rfl, (Same.refl w).setBlock _, ?_⟩
        have e : D.put k s = { D with armed := fupd D.armed k none } := by unfold DiskM.put; rw [HA.out]; simp
        have hP := HP.out
        rw [e] at hP
        rw [Int.toNat_natCast, e]
        exact diskAt_iff.2 ⟨.slice b D.n cap, cb, ab, es, ck, _, es3, ck3, _, ⟨hP, HM.out, HK.out, HM3.out, HK2.out⟩, HS1.out.perm (by ac_rfl)⟩
      have h0j : 0 ≤ j := by omega
      obtain ⟨j, rfl⟩ := Int.eq_ofNat_of_zero_le h0j
      have hk1 : ((j : Int) != -1) = true := by rw [bne_iff_ne]; omega
      have HA := Lib.hid har
      rw [har] at hlk0
      rw [hlk0] at hl0
      simp only [Option.map_some, Option.getD_some, Option.isSome_some] at hl0
      clear hlk0 har hK hM hM2 hK2 hwf hs hab hS h hM3 hlen ha hj
      go_enter Tryz.func60, Tryz.ntmps60
      go_upto_region 7 with (first
        | (go_at_call 93; refine (has_any _ _ _ _ _ _ q0).mono ?_; rintro e w' ⟨rfl, rfl⟩)
        | (at_delete; apply wpList_delete_run (hrun := hdel); rfl; rfl; rfl; rfl))
      
      go_upto_region 8 with (fail)
      refine reg_begin (fun w' => w'.cell? ⟨p, 1, none⟩ = some (.map (some cb))) (by kernel_rfl) ?_
      (apply reg_take 0 rfl rfl (by decide +kernel) rfl); (intro w' hw'; go_simp; rfl); go_simp; simp only [List.setIfInBounds_toArray, List.set_cons_succ, List.set_cons_zero]
      (apply reg_take 1 rfl rfl (by decide +kernel) rfl); (intro w' hw'; go_simp; rfl); go_simp; simp only [List.setIfInBounds_toArray, List.set_cons_succ, List.set_cons_zero]
      (apply reg_take 2 rfl rfl (by decide +kernel) rfl); (intro w' hw'; go_simp; rfl); go_simp; simp only [List.setIfInBounds_toArray, List.set_cons_succ, List.set_cons_zero]
      (apply reg_take 3 rfl rfl (by decide +kernel) rfl); (intro w' hw'; go_simp; rfl); go_simp; simp only [List.setIfInBounds_toArray, List.set_cons_succ, List.set_cons_zero]
      (apply reg_take 4 rfl rfl (by decide +kernel) rfl); (intro w' hw'; go_simp; rfl); go_simp; simp only [List.setIfInBounds_toArray, List.set_cons_succ, List.set_cons_zero]
      (apply reg_take 5 rfl rfl (by decide +kernel) rfl); (intro w' hw'; go_simp; rfl); go_simp; simp only [List.setIfInBounds_toArray, List.set_cons_succ, List.set_cons_zero]
      obtain ⟨W, cap1, hcv, hra, hbl⟩ := conv_sec HL.out (setBlock w ab (.map es3 ck3)).drew
      have hq1 : W.cell? ⟨p, 1, none⟩ = some (.map (some cb)) := by rw [hbl.cell (p := ⟨p, 1, none⟩) (by simpa using hplt)]; exact (hc1 _).trans q1
      refine reg_run 6 (.slice (some ⟨(setBlock w ab (.map es3 ck3)).heap.size, 0, none⟩) 64 cap1) W rfl rfl (by decide +kernel) rfl (by go_simp) hq1 ?_
      simp only [List.setIfInBounds_toArray, List.set_cons_succ, List.set_cons_zero]
      refine reg_take 7 (v := .pointer (some ⟨(setBlock w ab (.map es3 ck3)).heap.size, 0, none⟩)) rfl rfl (by decide +kernel) rfl (fun _ _ => exec_arrayAt rfl rfl Tryz.underlying106 (Nat.le_refl 64)) hq1 ?_
      simp only [List.setIfInBounds_toArray, List.set_cons_succ, List.set_cons_zero]
      refine reg_run 8 (secV s) W rfl rfl (by decide +kernel) rfl (exec_load rfl rfl (run_loadAt_mid W _ 0 TS (secL s) _ hra Tryz.underlying106 rfl (by rw [infoTS HL.out, secA_size, secL_length]))) hq1 ?_
      simp only [List.setIfInBounds_toArray, List.set_cons_succ, List.set_cons_zero]
      have hSW := (HS1.out.drew.below hbl)
      obtain ⟨es4, ck4, hup, hM4⟩ := run_mapUpdate_kv (P := Tryz.prog) Tryz.underlying95 Tryz.underlying3 hSW.block HM.out (j : Int) (secV s)
      have hq2 : (setBlock W cb (.map es4 ck4)).cell? ⟨p, 1, none⟩ = some (.map (some cb)) := (cell?_setMap hSW.block es4 ck4 _).trans hq1
      refine reg_do 9 (setBlock W cb (.map es4 ck4)) rfl rfl (by decide +kernel) rfl (exec_mapUpdate rfl rfl rfl rfl hup) hq2 ?_
      refine reg_done (by decide +kernel) ?_
      clear hup
      go_wp2
      go_ret
      refine ⟨rfl, ?_, ?_⟩
      · exact ((((Same.refl w).setBlock _).drew).below hbl).setBlock _
      ·
        have e : D.put k s = { D with armed := fupd D.armed k none, cache := fupd D.cache j (some s) } := by
          unfold DiskM.put; rw [HA.out]; simp only [show ¬ ((j : Int) = -1) by omega, if_false, Int.toNat_natCast]
        have hP := HP.out
        rw [e] at hP
        rw [Int.toNat_natCast, e]
        exact diskAt_iff.2 ⟨.slice b D.n cap, cb, ab, es4, ck4, _, es3, ck3, _, ⟨hP, hM4, HK.out.upd (by omega) s, HM3.out, HK2.out⟩, (hSW.setBlock (o' := .map es4 ck4)).perm (by ac_rfl)⟩
  · have hwr : D.write i s = (D, 1) := if_neg h
    rw [hwr]
    have HS := Lib.hid hS
    by_cases hh : D.has i = true
    · have hd : (decide (0 ≤ i) && decide (i < (D.n : Int))) = true := hh
      have hsz : ((((⟨s.toArray⟩ : ByteArray).size : Nat) : Int) != 64) = true := by
        rw [bne_iff_ne]
        intro hc
        have : s.toArray.size = 64 := by have : (⟨s.toArray⟩ : ByteArray).size = 64 := by omega
                                         exact this
        exact h ⟨hh, by simpa using this⟩
      obtain ⟨m, hm⟩ : ∃ m, (⟨s.toArray⟩ : ByteArray).size = m := ⟨_, rfl⟩
      rw [hm] at hsz
      clear hwr h hS hs hab hM hK hM2 hK2 hwf hh
      go_enter Tryz.func60, Tryz.ntmps60
      go_wp2_with (go_at_call 93; refine (has_any _ _ _ _ _ _ q0).mono ?_; rintro e w' ⟨rfl, rfl⟩)
      go_ret
      exact ⟨rfl, Same.refl w, HS.out⟩
    · have hd : (decide (0 ≤ i) && decide (i < (D.n : Int))) = false := by simpa [DiskM.has] using hh
      clear hwr h hS hs hab hM hK hM2 hK2 hwf hh
      go_enter Tryz.func60, Tryz.ntmps60
      go_wp2_with (go_at_call 93; refine (has_any _ _ _ _ _ _ q0).mono ?_; rintro e w' ⟨rfl, rfl⟩)
      go_ret
      exact ⟨rfl, Same.refl w, HS.out⟩
end Go.Proofs.YtogmkbhbmmgidaaGreat
end
section
namespace Go.Proofs.YtogmkbhbmmgidaaGreat
open Go.RowKit Go.Sl Go.ChangeMaps
theorem cf_flush (args : Array Value) (w : World) : (callFunc 61 args).run Tryz.prog w = .ok (.enter 61 args) w := by kernel_rfl
set_option maxHeartbeats 1000000 in
theorem step_anyV (p : Nat) (S : ShelfM) (vb : Value) (F : HProp) (d : Int) (f : FuncId) (cap : Array Value) (D' : DiskM) (hcf : ∀ args w, (callFunc f args).run Tryz.prog w = .ok (.enter f args) w) (hn : D'.n = (S.disk d).n) (hd : S.state d ≠ 0)
    (hex : S.state d = 1 → ∀ w' q G, Sat w' (diskAt TD TS q (S.disk d) * (F * G)) → Calls Tryz.prog f (#[.agg #[ptrV q, .int .i64 1]] ++ cap) w' fun e w'' => e = .returned (.tuple #[]) ∧ Hid (Same w' w'' ∧ Sat w'' (diskAt TD TS q D' * (F * G))))
    (w : World) (hV : Sat w (shelfV SH p S vb * F)) :
    Calls Tryz.prog 58 #[.pointer (some ⟨p, 0, none⟩), .int .i64 d, .func (.func f) #[] cap] w fun e w' => e = .returned (.int .i64 (S.step d fun _ => D').2) ∧ Hid (Same w w' ∧ Sat w' (shelfV SH p (S.step d fun _ => D').1 vb * F)) := by
  have hS : Sat w (shelfAt SH p S * F) := shelfAt_V.2 ⟨vb, hV⟩
  have hwf := shelfAt_wf hS
  have h := ShelfM.state_in hwf hd
  have hacc := access_any p S F d w hS hd
  have hst : S.step d (fun _ => D') = if S.off then (S, 14) else if S.state d ≠ 1 then (S, 15)
    else if S.fused then (if S.left = 0 then ({ S with off := true, fused := false }, 14) else (({ S with left := S.left - 1 } : ShelfM).setDisk d D', 0))
    else (S.setDisk d D', 0) := rfl
  have HS := Lib.hid hV
  by_cases ho : S.off = true
  · rw [if_pos ho] at hst
    have ha : S.access d = 14 := by unfold ShelfM.access; rw [if_pos ho]
    rw [hst]; rw [ha] at hacc
    clear hst hwf h hex hS hV ha ho hd
    go_enter Tryz.func58, Tryz.ntmps58
    go_wp2_with (go_at_call 69; refine hacc.mono ?_; rintro e w' ⟨rfl, rfl⟩)
    go_ret
    exact ⟨rfl, Same.refl w, HS.out⟩
  rw [if_neg ho] at hst
  by_cases h1 : S.state d = 1
  case neg =>
    rw [if_pos h1] at hst
    have ha : S.access d = 15 := by unfold ShelfM.access; rw [if_neg ho, if_neg h1]
    rw [hst]; rw [ha] at hacc
    clear hst hwf h hex hS hV ha ho hd h1
    go_enter Tryz.func58, Tryz.ntmps58
    go_wp2_with (go_at_call 69; refine hacc.mono ?_; rintro e w' ⟨rfl, rfl⟩)
    go_ret
    exact ⟨rfl, Same.refl w, HS.out⟩
  rw [if_neg (by simp [h1])] at hst
  have ha : S.access d = 0 := by unfold ShelfM.access; rw [if_neg ho, if_pos h1]
  rw [ha] at hacc
  have HEX := Lib.hid (hex h1)
  have hoff : S.off = false := by simpa using ho
  obtain ⟨k, rfl⟩ := Int.eq_ofNat_of_zero_le h.1
  obtain ⟨g, cap', q, vi, G, hvb, hs, ⟨hpg, hg⟩, b0, b1, hf, hcl, hbc⟩ := shelf_bayV hV (d := k) (by omega)
  have HVB := Lib.hid hvb
  rw [h1] at b1
  have HCL := Lib.hid hcl
  have HBC := Lib.hid hbc
  have HWF := Lib.hid hwf
  have H1 := Lib.hid h1
  have HN := Lib.hid hn
  have hk := h.2
  obtain ⟨⟨q6, q7, q8, q9, q10⟩, hp, hfp, hra⟩ := shelf_cells hs
  have HSS := Lib.hid hs
  obtain ⟨n, hnn⟩ : ∃ n, S.bays.length = n := ⟨_, rfl⟩
  rw [hnn] at q6 hk
  have HNN := Lib.hid hnn
  clear hcl hbc hex hS hV hvb hs ho ha hra h hnn hd hn
  cases hfu : S.fused
  · rw [hfu] at q9
    rw [if_neg (by simp [hfu])] at hst
    rw [hst]
    have HFU := Lib.hid hfu
    clear hst hwf hfu h1
    rw [hoff] at q8
    go_enter Tryz.func58, Tryz.ntmps58
    go_wp2_with (first
      | (go_at_call 69; refine hacc.mono ?_; rintro e w' ⟨rfl, rfl⟩)
      | (refine (HEX.out _ q (pts p (.cells (shelfC S.cfg (.slice (some ⟨g, 0, none⟩) S.bays.length cap') vi S.off S.fused S.left) TSh (0, 0)) * G) (HSS.out.perm (by ac_rfl))).mono ?_; rintro e w2 ⟨rfl, h2⟩))
    go_ret
    exact ⟨rfl, h2.out.1, HCL.out w2 (S.setDisk (k : Int) D') D' F (HWF.out.setDisk (by rw [H1.out]; decide) HN.out) rfl rfl rfl (h2.out.2.perm (by simp only [ShelfM.setDisk, ShelfM.setBay]; ac_rfl))⟩
  · rw [hfu] at q9
    rw [if_pos (by simp [hfu])] at hst
    have HFU := Lib.hid hfu
    have hlf := hwf.left hfu
    have hlf1 := hlf.1
    have hlf2 := hlf.2
    by_cases hl : S.left = 0
    · rw [if_pos hl] at hst
      rw [hst]
      rw [hl] at q10
      have hfin : Sat ((w.setCell ⟨p, 8, none⟩ (.bool true)).setCell ⟨p, 9, none⟩ (.bool false)) (shelfV SH p { S with off := true, fused := false } vb * F) := by
        refine Sat.shelfSetV HS.out ⟨hwf.cfg, hwf.bays, hwf.st, hwf.images, fun h => by cases h⟩ rfl rfl rfl ?_
        rintro _ _ vb vi G rfl rfl h
        exact (h.setCell _).setCell _
      have HF := Lib.hid hfin
      clear hst hwf hfu h1 hlf hfin hl hlf1 hlf2
      rw [hoff] at q8
      go_enter Tryz.func58, Tryz.ntmps58
      go_wp2_with (go_at_call 69; refine hacc.mono ?_; rintro e w' ⟨rfl, rfl⟩)
      go_ret
      exact ⟨rfl, ((Same.refl w).setCell _ _).setCell _ _, HF.out⟩
    · rw [if_neg hl] at hst
      rw [hst]
      have hl1 : (S.left == 0) = false := by simp [hl]
      have hs2 := HSS.out.setCell (i := 10) (.int .i64 (S.left - 1))
      have hs3 : Sat (w.setCell ⟨p, 10, none⟩ (.int .i64 (S.left - 1))) (pts p (.cells (shelfC S.cfg (.slice (some ⟨g, 0, none⟩) S.bays.length cap') vi S.off S.fused (S.left - 1)) TSh (0, 0)) * (diskAt TD TS q (S.disk k) * (F * G))) := hs2
      have HS3 := Lib.hid hs3
      have HL := Lib.hid (show S.fused = true → 0 ≤ S.left - 1 ∧ S.left - 1 < 9223372036854775808 from fun _ => by omega)
      have hlf3 : S.left - 1 < 9223372036854775808 := by omega
      have hlf4 : 0 ≤ S.left - 1 := by omega
      clear hst hwf hfu h1 hl hs2 hs3 hlf
      rw [hoff] at q8
      generalize hle : S.left = lf at q10 hlf1 hlf2 hl1 hlf3 hlf4
      have HLE := Lib.hid hle
      clear hle
      go_enter Tryz.func58, Tryz.ntmps58
      go_wp2_with (first
        | (go_at_call 69; refine hacc.mono ?_; rintro e w' ⟨rfl, rfl⟩)
        | (rw [← HLE.out]; refine (HEX.out _ q (pts p (.cells (shelfC S.cfg (.slice (some ⟨g, 0, none⟩) S.bays.length cap') vi S.off S.fused (S.left - 1)) TSh (0, 0)) * G) (HS3.out.perm (by ac_rfl))).mono ?_; rintro e w2 ⟨rfl, h2⟩))
      go_ret
      rw [← HLE.out]
      refine ⟨rfl, ((Same.refl w).setCell _ _).trans h2.out.1, HCL.out w2 (({ S with left := S.left - 1 } : ShelfM).setDisk (k : Int) D') D' F ?_ rfl rfl rfl (h2.out.2.perm (by simp only [ShelfM.setDisk, ShelfM.setBay]; ac_rfl))⟩
      have hw2 : ({ S with left := S.left - 1 } : ShelfM).WF := ⟨HWF.out.cfg, HWF.out.bays, HWF.out.st, HWF.out.images, HL.out⟩
      exact hw2.setDisk (d := (k : Int)) (by show S.state k ≠ 0; rw [H1.out]; decide) HN.out
theorem step_any (p : Nat) (S : ShelfM) (F : HProp) (d : Int) (f : FuncId) (cap : Array Value) (D' : DiskM) (hcf : ∀ args w, (callFunc f args).run Tryz.prog w = .ok (.enter f args) w) (hn : D'.n = (S.disk d).n) (hd : S.state d ≠ 0)
    (hex : S.state d = 1 → ∀ w' q G, Sat w' (diskAt TD TS q (S.disk d) * (F * G)) → Calls Tryz.prog f (#[.agg #[ptrV q, .int .i64 1]] ++ cap) w' fun e w'' => e = .returned (.tuple #[]) ∧ Hid (Same w' w'' ∧ Sat w'' (diskAt TD TS q D' * (F * G))))
    (w : World) (hS : Sat w (shelfAt SH p S * F)) :
    Calls Tryz.prog 58 #[.pointer (some ⟨p, 0, none⟩), .int .i64 d, .func (.func f) #[] cap] w fun e w' => e = .returned (.int .i64 (S.step d fun _ => D').2) ∧ Hid (Same w w' ∧ Sat w' (shelfAt SH p (S.step d fun _ => D').1 * F)) := by
  obtain ⟨vb, hV⟩ := shelfAt_V.1 hS
  exact (step_anyV p S vb F d f cap D' hcf hn hd hex w hV).mono fun e w' h => ⟨h.1, h.2.out.1, shelfAt_V.2 ⟨vb, h.2.out.2⟩⟩
theorem zeroBay (w : World) : (zeroValue TBay).run Tryz.prog w = .ok (.agg #[.pointer none, .int .i64 0]) w := by kernel_rfl
theorem infoBay (x y : Value) : (Tryz.prog.info? TBay).map (·.size) = some (#[x, y] : Array Value).size := by
  show _ = some 2
  kernel_rfl
set_option maxHeartbeats 1000000 in
theorem arm_bad (p : Nat) (S : ShelfM) (F : HProp) (a : PlaceM) (valid : Bool) (f : FuncId) (cap : Array Value) (w : World) (hS : Sat w (shelfAt SH p S * F)) (h : S.number a < 0 ∨ valid = false) :
    Calls Tryz.prog 74 #[.pointer (some ⟨p, 0, none⟩), .agg (plA a), .bool valid, .func (.func f) #[] cap] w fun e w' => e = .returned (.int .i64 1) ∧ Hid (Same w w' ∧ Sat w' (shelfAt SH p S * F)) := by
  have HS := Lib.hid hS
  have hnum := number_any p S F a (w.alloc (.cells (plA a) TPl)) (hS.allocKeep _)
  generalize S.number a = x at *
  clear hS
  by_cases h0 : x < 0
  · have hb : decide (x < 0) = true := decide_eq_true h0
    clear h h0
    go_enter Tryz.func74, Tryz.ntmps74
    go_wp2_with (go_at_call 57; refine hnum.mono ?_; rintro e w' ⟨rfl, hb1⟩)
    go_ret
    exact ⟨rfl, ((Same.refl w).alloc _).below hb1.out, (HS.out.allocKeep _).below hb1.out⟩
  · have hb : decide (x < 0) = false := decide_eq_false h0
    obtain rfl : valid = false := by rcases h with h | h; exact absurd h h0; exact h
    clear h h0
    go_enter Tryz.func74, Tryz.ntmps74
    go_wp2_with (go_at_call 57; refine hnum.mono ?_; rintro e w' ⟨rfl, hb1⟩)
    go_ret
    exact ⟨rfl, ((Same.refl w).alloc _).below hb1.out, (HS.out.allocKeep _).below hb1.out⟩
def armR (st r : Int) : Int := if st = 1 then r else 15
def ArmOut (p : Nat) (S : ShelfM) (F F' : HProp) (d : Int) (D' : DiskM) (w' : World) : Prop := if S.state d = 1 then Sat w' (shelfAt SH p (S.setDisk d D') * F') else Sat w' (shelfAt SH p S * F)
set_option maxRecDepth 100000 in
set_option maxHeartbeats 1000000 in
theorem arm_do (p : Nat) (S : ShelfM) (F F' : HProp) (a : PlaceM) (f : FuncId) (cap : Array Value) (D' : DiskM) (r : Int) (hcf : ∀ args w, (callFunc f args).run Tryz.prog w = .ok (.enter f args) w) (hnum0 : 0 ≤ S.number a)
    (hn : S.state a.disk = 1 → D'.n = (S.disk a.disk).n)
    (hex : S.state a.disk = 1 → ∀ w' q G, Sat w' (diskAt TD TS q (S.disk a.disk) * (F * G)) → Calls Tryz.prog f (#[.agg #[ptrV q, .int .i64 1], .int .i64 (S.number a)] ++ cap) w' fun e w'' => e = .returned (.int .i64 r) ∧ Hid (Same w' w'' ∧ Sat w'' (diskAt TD TS q D' * (F' * G))))
    (w : World) (hS : Sat w (shelfAt SH p S * F)) :
    Calls Tryz.prog 74 #[.pointer (some ⟨p, 0, none⟩), .agg (plA a), .bool true, .func (.func f) #[] cap] w fun e w' =>
      e = .returned (.int .i64 (armR (S.state a.disk) r)) ∧ Hid (Same w w' ∧ ArmOut p S F F' a.disk D' w') := by
  have hwf := shelfAt_wf hS
  have hnl := ShelfM.number_lt hwf hnum0
  have h := ShelfM.state_in hwf hnl.1
  have hnum := number_any p S F a (w.alloc (.cells (plA a) TPl)) (hS.allocKeep _)
  have hS0 := (hS.alloc (.cells (plA a) TPl)).perm (show _ = shelfAt SH p S * (F * pts w.heap.size (.cells (plA a) TPl (0, 0))) from by ac_rfl)
  have hSm0 := (Same.refl w).alloc (.cells (plA a) TPl)
  have HS := Lib.hid (And.intro hSm0 hS0)
  have hb : decide (S.number a < 0) = false := decide_eq_false (by omega)
  obtain ⟨⟨d, ar, ix⟩, ha⟩ : ∃ b : PlaceM, a = b := ⟨_, rfl⟩
  subst ha
  simp only at *
  obtain ⟨k, rfl⟩ := Int.eq_ofNat_of_zero_le h.1
  have hk := h.2
  have HEX := Lib.hid hex
  have HN := Lib.hid hn
  have HWF := Lib.hid hwf
  obtain ⟨tib, htib⟩ : ∃ ti, Tryz.prog.info? TBay = some ti ∧ ti.size = 2 := by have := infoBay (ptrV 0) (ptrV 0); obtain ⟨ti, h1, h2⟩ := Option.map_eq_some_iff.1 this; exact ⟨ti, h1, h2⟩
  have htb := htib.1
  have htb2 := htib.2
  clear htib
  obtain ⟨nb, hnb⟩ : ∃ nb, S.number ⟨(k : Int), ar, ix⟩ = nb := ⟨_, rfl⟩
  rw [hnb] at hnum hb
  have HNB := Lib.hid hnb
  clear hex hn hwf hS hnl h hS0 hSm0 hnb hnum0
  go_enter Tryz.func74, Tryz.ntmps74
  go_upto_region 4 with (go_at_call 57; refine hnum.mono ?_; rintro e w1 ⟨rfl, hb1⟩; replace HS := Lib.hid (And.intro (HS.out.1.below hb1.out) (HS.out.2.below hb1.out)); clear hb1)
  generalize w.heap.size = B at HS ⊢
  obtain ⟨g, cap', q, vi, G, hs, ⟨hpg, hg⟩, b0, b1, hf, hcl, hbc⟩ := shelf_bay HS.out.2 (d := k) (by omega)
  have c0 : w1.cell? ⟨B, 0, none⟩ = some (.int .i64 (k : Int)) := cells_at (HS.out.2.perm (show _ = pts B (.cells (plA ⟨(k : Int), ar, ix⟩) TPl (0, 0)) * (shelfAt SH p S * F) from by ac_rfl)).block 0
  obtain ⟨⟨q6, q7, q8, q9, q10⟩, hp, hfp, hra⟩ := shelf_cells hs
  have HSS := Lib.hid hs
  have HCL := Lib.hid hcl
  obtain ⟨n, hnn⟩ : ∃ n, S.bays.length = n := ⟨_, rfl⟩
  rw [hnn] at q6 hk
  have HNN := Lib.hid hnn
  have hra2 : w1.rangeAt g (0 + k * 2) [ptrV q, .int .i64 (S.state k)] := by
    intro j u hu
    match j, hu with
    | 0, hu => simp at hu; subst hu; rw [Nat.zero_add]; exact b0
    | 1, hu => simp at hu; subst hu; rw [Nat.zero_add]; exact b1
  clear hcl hbc hs hra hnn hf hfp
  obtain ⟨st, hst⟩ : ∃ st, S.state (k : Int) = st := ⟨_, rfl⟩
  rw [hst] at hra2 b1
  have HST := Lib.hid hst
  clear hst
  have hS0 : w1.drew.cell? ⟨p, 6, none⟩ = some (.slice (some ⟨g, 0, none⟩) n cap') ∧ w1.drew.cell? ⟨B, 0, none⟩ = some (.int .i64 (k : Int)) ∧ w1.drew.rangeAt g (0 + k * 2) [ptrV q, .int .i64 st] := ⟨q6, c0, hra2⟩
  refine reg_begin (fun w' => w'.cell? ⟨p, 6, none⟩ = some (.slice (some ⟨g, 0, none⟩) n cap') ∧ w'.cell? ⟨B, 0, none⟩ = some (.int .i64 (k : Int)) ∧ w'.rangeAt g (0 + k * 2) [ptrV q, .int .i64 st]) (by kernel_rfl) ?_
  (apply reg_take 0 rfl rfl (by decide +kernel) rfl); (rintro w' ⟨h1, h2, h3⟩; go_simp; rfl); exact hS0; simp only [List.setIfInBounds_toArray, List.set_cons_succ, List.set_cons_zero]
  (apply reg_take 1 rfl rfl (by decide +kernel) rfl); (rintro w' ⟨h1, h2, h3⟩; go_simp; rfl); exact hS0; simp only [List.setIfInBounds_toArray, List.set_cons_succ, List.set_cons_zero]
  (apply reg_take 2 rfl rfl (by decide +kernel) rfl); (rintro w' ⟨h1, h2, h3⟩; go_simp; rfl); exact hS0; simp only [List.setIfInBounds_toArray, List.set_cons_succ, List.set_cons_zero]
  (apply reg_take 3 rfl rfl (by decide +kernel) rfl); (rintro w' ⟨h1, h2, h3⟩; go_simp; rfl); exact hS0; simp only [List.setIfInBounds_toArray, List.set_cons_succ, List.set_cons_zero]
  (apply reg_take 4 rfl rfl (by decide +kernel) rfl); (rintro w' ⟨h1, h2, h3⟩; go_simp; rfl); exact hS0; simp only [List.setIfInBounds_toArray, List.set_cons_succ, List.set_cons_zero]
  (apply reg_take 5 rfl rfl (by decide +kernel) rfl); (rintro w' ⟨h1, h2, h3⟩; go_simp; rfl); exact hS0; simp only [List.setIfInBounds_toArray, List.set_cons_succ, List.set_cons_zero]
  refine reg_take 6 (v := .pointer (some ⟨g, 0 + k * 2, none⟩)) rfl rfl (by decide +kernel) rfl (fun _ _ => exec_index_slice rfl rfl rfl Tryz.underlying56 htb htb2 (by omega)) hS0 ?_; simp only [List.setIfInBounds_toArray, List.set_cons_succ, List.set_cons_zero]
  refine reg_take 7 (v := .agg #[ptrV q, .int .i64 st]) rfl rfl (by decide +kernel) rfl (fun w' h => exec_load rfl rfl (run_loadAt_mid w' g (0 + k * 2) TBay [ptrV q, .int .i64 st] _ h.2.2 Tryz.underlying63 rfl (infoBay _ _))) hS0 ?_; simp only [List.setIfInBounds_toArray, List.set_cons_succ, List.set_cons_zero]
  have hBlt : B < w1.heap.size := World.block_lt_of_cell? _ _ c0
  refine reg_run 8 (.pointer (some ⟨w1.heap.size, 0, none⟩)) (w1.drew.alloc (.cells #[.pointer none, .int .i64 0] TBay)) rfl rfl (by decide +kernel) rfl (exec_alloc_zero rfl _ (zeroBay _)) (⟨(World.cell?_alloc_lt _ _ _ hp).trans q6, (World.cell?_alloc_lt _ _ _ hBlt).trans c0, fun j u hu => (World.cell?_alloc_lt _ _ _ hg).trans (hra2 j u hu)⟩) ?_; simp only [List.setIfInBounds_toArray, List.set_cons_succ, List.set_cons_zero]
  refine reg_do_last 9 (w1.drew.alloc (.cells #[ptrV q, .int .i64 st] TBay)) rfl rfl (by decide +kernel) rfl (exec_store_fresh rfl TBay _ _ rfl rfl (infoBay _ _) rfl (by simp [ptrV, Value.oneCell'])) ?_
  have hB := HS.out.2
  by_cases h1 : st = 1
  · subst h1
    have hex2 : ∀ w' q G, Sat w' (diskAt TD TS q (S.disk k) * (F * G)) → Calls Tryz.prog f (#[.agg #[ptrV q, .int .i64 1], .int .i64 nb] ++ cap) w' fun e w'' => e = .returned (.int .i64 r) ∧ Hid (Same w' w'' ∧ Sat w'' (diskAt TD TS q D' * (F' * G))) := by
      rw [← HNB.out]; exact HEX.out HST.out
    have HEX2 := Lib.hid hex2
    clear hex2 hB
    go_wp2_with (refine (HEX2.out _ q (pts p (.cells (shelfC S.cfg (.slice (some ⟨g, 0, none⟩) S.bays.length cap') vi S.off S.fused S.left) TSh (0, 0)) * (pts B (.cells (plA ⟨(k : Int), ar, ix⟩) TPl (0, 0)) * G)) ((HSS.out.drew.allocKeep _).perm (by ac_rfl))).mono ?_; rintro e w2 ⟨rfl, h2⟩)
    go_ret
    unfold ArmOut armR
    rw [if_pos HST.out, if_pos HST.out]
    have hfin := HCL.out w2 (S.setDisk (k : Int) D') D' (F' * pts B (.cells (plA ⟨(k : Int), ar, ix⟩) TPl (0, 0))) (HWF.out.setDisk (by rw [HST.out]; decide) (HN.out HST.out)) rfl rfl rfl (h2.out.2.perm (by simp only [ShelfM.setDisk, ShelfM.setBay]; ac_rfl))
    exact ⟨rfl, (HS.out.1.drew.alloc _).trans h2.out.1, (hfin.perm (show _ = pts B (.cells (plA ⟨(k : Int), ar, ix⟩) TPl (0, 0)) * (shelfAt SH p (S.setDisk (k : Int) D') * F') from by ac_rfl)).right⟩
  · have h1b : (st == 1) = false := by simp [h1]
    clear hB
    go_wp2
    go_ret
    unfold ArmOut armR
    rw [if_neg (by rw [HST.out]; exact h1), if_neg (by rw [HST.out]; exact h1)]
    exact ⟨rfl, HS.out.1.drew.alloc _, ((HS.out.2.drew.allocKeep _).perm (show _ = pts B (.cells (plA ⟨(k : Int), ar, ix⟩) TPl (0, 0)) * (shelfAt SH p S * F) from by ac_rfl)).right⟩
end Go.Proofs.YtogmkbhbmmgidaaGreat
end
