import Derived.Test.YtogmkbhbmmgidaaGreatP13
import Derived.Test.YtogmkbhbmmgidaaGreatP05
/- Part 14 of a proof; the last part says what is proved. -/
section
namespace Go.Proofs.YtogmkbhbmmgidaaGreat
open Go.RowKit Go.Sl Go.ChangeMaps
theorem ok_wf {c : CfgM} (h : c.ok = true) (hs : c.sectors ≤ 65536) : c.WF := by
  unfold CfgM.ok inB at h
  simp only [Bool.and_eq_true, decide_eq_true_eq] at h
  obtain ⟨⟨⟨⟨⟨⟨⟨a1, a2⟩, b1, b2⟩, c1, c2⟩, d1, d2⟩, e1, e2⟩, f1, f2⟩, _⟩ := h
  exact ⟨⟨a1, a2⟩, ⟨c1, c2⟩, ⟨e1, e2⟩, ⟨f1, f2⟩, hs⟩
theorem new_n {c : CfgM} (h : c.WF) : ((DiskM.new c.sectors).n : Int) = c.sectors := by
  have := h.small; have := h.log; have := h.image; have := h.rows
  show (((min (max c.sectors 0) 65536).toNat : Nat) : Int) = c.sectors
  unfold CfgM.sectors at *
  omega
theorem new_wf {c : CfgM} (h : c.WF) : (ShelfM.new c).WF :=
  ⟨h, by simp [ShelfM.new], fun b hb => by
    have := List.eq_of_mem_replicate hb
    subst this
    exact ⟨.inl rfl, fun _ => new_n h⟩, fun D hD => by simp [ShelfM.new] at hD, fun h => by simp [ShelfM.new] at h⟩
theorem cfg_cells {w : World} {B : Nat} {c : CfgM} {T : TypeId} {F : HProp} (h : Sat w (pts B (.cells (cfgA c) T (0, 0)) * F)) :
    (w.cell? ⟨B, 0, none⟩ = some (.int .i64 c.disks) ∧ w.cell? ⟨B, 1, none⟩ = some (.int .i64 c.racks) ∧ w.cell? ⟨B, 2, none⟩ = some (.int .i64 c.rows)) ∧
    (w.cell? ⟨B, 3, none⟩ = some (.int .i64 c.spare) ∧ w.cell? ⟨B, 4, none⟩ = some (.int .i64 c.log) ∧ w.cell? ⟨B, 5, none⟩ = some (.int .i64 c.image)) ∧ B < w.heap.size ∧ w.rangeAt B 0 (cfgL c) := by
  have hb := cells_at h.block
  refine ⟨⟨hb 0, hb 1, hb 2⟩, ⟨hb 3, hb 4, hb 5⟩, h.lt, fun j u hu => ?_⟩
  rw [hb, Nat.zero_add, ← hu]
  simp [cfgL]
structure NewSt (w : World) (p B0 : Nat) (c : CfgM) (F : HProp) (i : Value) (wr : World) : Prop where
  st : ∃ (k : Nat) (ps : List Nat) (vb : Value), (k : Int) ≤ c.disks ∧ i = .int .i64 k ∧ ps.length = k ∧ Same w wr ∧ Sat wr (pts p (.cells (shelfC c vb (.slice none 0 0) false false 0) TSh (0, 0)) * (ownAt TBay 2 vb k (baysL ps (List.replicate k ⟨DiskM.new c.sectors, 1⟩)) *
    (disksAt TD TS ps (List.replicate k (DiskM.new c.sectors)) * (pts B0 (.cells (cfgA c) TCfg (0, 0)) * F))))
theorem info_Bay3 : (Tryz.prog.info? TBay).map (fun i => (i.zero, i.size, i.bytes)) = some (some (.agg #[.pointer none, .int .i64 0]), 2, 16) := by kernel_rfl
set_option maxHeartbeats 400000 in
theorem snew_bad (c : CfgM) (F : HProp) (w : World) (hF : Sat w F) (hok : c.ok = false) :
    Calls Tryz.prog 6 #[.agg (cfgA c)] w fun e w' => e = .returned (.tuple #[.pointer none, .int .i64 1]) ∧ Hid (Same w w' ∧ Sat w' F) := by
  have hc := check_any c (w.alloc (.cells (cfgA c) TCfg))
  rw [if_neg (by rw [hok]; decide)] at hc
  have HF := Lib.hid hF
  clear hF hok
  go_enter Tryz.func6, Tryz.ntmps6
  go_wp2_with (go_at_call 19; refine hc.mono ?_; rintro e w1 ⟨rfl, hb⟩; have HB := Lib.hid hb; clear hb hc)
  go_ret2
  exact ⟨rfl, ((Same.refl w).alloc _).below HB.out, (HF.out.allocKeep _).below HB.out⟩
set_option maxRecDepth 100000 in
set_option maxHeartbeats 2000000 in
theorem snew_ok (c : CfgM) (F : HProp) (w : World) (hF : Sat w F) (hok : c.ok = true) (hsm : c.sectors ≤ 65536) :
    Calls Tryz.prog 6 #[.agg (cfgA c)] w fun e w' => ∃ p, e = .returned (.tuple #[.pointer (some ⟨p, 0, none⟩), .int .i64 0]) ∧ Hid (Same w w' ∧ Sat w' (shelfAt SH p (ShelfM.new c) * F)) := by
  have hc := check_any c (w.alloc (.cells (cfgA c) TCfg))
  rw [if_pos hok] at hc
  have hwf := ok_wf hok hsm
  have hsec := fun w' => sectors_any c w' (by have := hwf.log; omega) (by have := hwf.image; omega) (by have := hwf.rows; omega)
  have hlim : decide (65536 < c.sectors) = false := decide_eq_false (by omega)
  have HF := Lib.hid (And.intro ((Same.refl w).alloc (.cells (cfgA c) TCfg)) (hF.alloc (.cells (cfgA c) TCfg)))
  have HWF := Lib.hid hwf
  have hd1 := hwf.disks.1
  have hd2 := hwf.disks.2
  obtain ⟨sc, hsc⟩ : ∃ sc, c.sectors = sc := ⟨_, rfl⟩
  rw [hsc] at hsec hlim
  have HSC := Lib.hid hsc
  have HSEC := Lib.hid hsec
  clear hF hok hsm hwf hsc hsec
  go_enter Tryz.func6, Tryz.ntmps6
  go_upto_region 5 with (first
    | (go_at_call 19; refine hc.mono ?_; rintro e w1 ⟨rfl, hb⟩; replace HF := Lib.hid (And.intro (HF.out.1.below hb) (HF.out.2.below hb)); obtain ⟨⟨b0, b1, b2⟩, ⟨b3, b4, b5⟩, bl, br⟩ := cfg_cells HF.out.2; clear hb hc br)
    | (go_at_call 20; refine (HSEC.out _).mono ?_; rintro e w2 ⟨rfl, hb⟩; replace HF := Lib.hid (And.intro (HF.out.1.below hb) (HF.out.2.below hb)); clear b0 b1 b2 b3 b4 b5 bl; obtain ⟨⟨b0, b1, b2⟩, ⟨b3, b4, b5⟩, bl, br⟩ := cfg_cells HF.out.2; clear hb br))
  go_upto_region 7 with (fail)
  have hA := (HF.out.2.alloc (.cells (shelfC c (.slice none 0 0) (.slice none 0 0) false false 0) TSh))
  have hSm := HF.out.1.alloc (.cells (shelfC c (.slice none 0 0) (.slice none 0 0) false false 0) TSh)
  clear HF b0 b1 b2 b3 b4 b5 bl
  unfold shelfC at hA hSm
  generalize w2.alloc (.cells _ TSh) = W at hA hSm ⊢
  generalize w2.heap.size = p at hA ⊢
  generalize w.heap.size = B0 at hA ⊢
  have HA := Lib.hid (And.intro hSm hA)
  clear hA hSm
  go_loopw [16] (fun i wr => NewSt w p B0 c F i wr) (fun i _ => c.disks.toNat - (intOf i).toNat)
  case atStart =>
    have h0 : Sat W (ownAt TBay 2 (.slice none 0 0) 0 [] * (pts p (.cells (shelfC c (.slice none 0 0) (.slice none 0 0) false false 0) TSh (0, 0)) * (emp * (pts B0 (.cells (cfgA c) TCfg (0, 0)) * F)))) := ownAt_nil.2 (by rw [emp_star]; exact HA.out.2)
    exact ⟨0, [], .slice none 0 0, by omega, rfl, rfl, HA.out.1, h0.perm (by show _ = pts p _ * (ownAt TBay 2 _ 0 [] * (emp * _)); unfold shelfC; ac_rfl)⟩
  case round =>
    obtain ⟨k, ps, vb, hk, rfl, hps, hsm, hs⟩ := hrel.st
    clear hrel HA
    have H1 := Lib.hid (And.intro hsm hs)
    have HPS := Lib.hid hps
    have hp6 : wr.cell? ⟨p, 6, none⟩ = some vb := cells_at hs.block 6
    obtain ⟨_, _, hp, hra⟩ := cfg_cells (hs.perm (show _ = pts B0 (.cells (cfgA c) TCfg (0, 0)) * (pts p (.cells (shelfC c vb (.slice none 0 0) false false 0) TSh (0, 0)) * (ownAt TBay 2 vb k (baysL ps (List.replicate k ⟨DiskM.new c.sectors, 1⟩)) *
      (disksAt TD TS ps (List.replicate k (DiskM.new c.sectors)) * F))) from by ac_rfl))
    clear hsm hs hps
    by_cases hlt : (k : Int) < c.disks
    · have hltd : decide ((k : Int) < c.disks) = true := decide_eq_true hlt
      go_upto_region 8 with (fail)
      have hS0 : wr.drew.cell? ⟨p, 6, none⟩ = some vb ∧ wr.drew.rangeAt B0 0 (cfgL c) := ⟨hp6, hra⟩
      refine reg_begin (fun w' => w'.cell? ⟨p, 6, none⟩ = some vb ∧ w'.rangeAt B0 0 (cfgL c)) (by kernel_rfl) ?_
      (apply reg_take 0 rfl rfl (by decide +kernel) rfl); (rintro w' ⟨h1, h2⟩; go_simp; rfl); exact hS0; simp only [List.setIfInBounds_toArray, List.set_cons_succ, List.set_cons_zero]
      (apply reg_take 1 rfl rfl (by decide +kernel) rfl); (rintro w' ⟨h1, h2⟩; go_simp; rfl); exact hS0; simp only [List.setIfInBounds_toArray, List.set_cons_succ, List.set_cons_zero]
      (apply reg_take 2 rfl rfl (by decide +kernel) rfl); (rintro w' ⟨h1, h2⟩; go_simp; rfl); exact hS0; simp only [List.setIfInBounds_toArray, List.set_cons_succ, List.set_cons_zero]
      (apply reg_take 3 rfl rfl (by decide +kernel) rfl); (rintro w' ⟨h1, h2⟩; go_simp; rfl); exact hS0; simp only [List.setIfInBounds_toArray, List.set_cons_succ, List.set_cons_zero]
      (apply reg_take 4 rfl rfl (by decide +kernel) rfl); (rintro w' ⟨h1, h2⟩; go_simp; rfl); exact hS0; simp only [List.setIfInBounds_toArray, List.set_cons_succ, List.set_cons_zero]
      refine reg_take 5 (v := .agg (cfgA c)) rfl rfl (by decide +kernel) rfl (fun w' h => exec_load rfl rfl (load_cfg h.2)) hS0 ?_; simp only [List.setIfInBounds_toArray, List.set_cons_succ, List.set_cons_zero]
      refine reg_call 6 rfl rfl (by decide +kernel) rfl (f := 20) (args := #[.agg (cfgA c)]) (R := fun v w' => v = .int .i64 sc ∧ Hid (Below wr.heap.size wr w')) (by kernel_rfl) ((HSEC.out wr.drew).mono fun e w' h => ⟨_, h.1, rfl, ⟨h.2.os, h.2.tape, h.2.output, h.2.size, h.2.block⟩⟩) ?_
      rintro _ w1 ⟨rfl, hb1⟩
      replace H1 := Lib.hid (And.intro (H1.out.1.below hb1.out) (H1.out.2.below hb1.out))
      have hS1 : w1.cell? ⟨p, 6, none⟩ = some vb ∧ w1.rangeAt B0 0 (cfgL c) := ⟨(hb1.out.cell (p := ⟨p, 6, none⟩) (World.block_lt_of_cell? _ _ hp6)).trans hp6, fun j u hu => (hb1.out.cell (p := ⟨B0, 0 + j, none⟩) hp).trans (hra j u hu)⟩
      refine ⟨hS1, ?_⟩
      simp only [List.setIfInBounds_toArray, List.set_cons_succ, List.set_cons_zero]
      refine reg_call 7 rfl rfl (by decide +kernel) rfl (f := 21) (args := #[.int .i64 sc]) (R := fun v w' => ∃ q, v = .pointer (some ⟨q, 0, none⟩) ∧ Hid (Same w w' ∧ Sat w' (diskAt TD TS q (DiskM.new c.sectors) * (pts p (.cells (shelfC c vb (.slice none 0 0) false false 0) TSh (0, 0)) * (ownAt TBay 2 vb k (baysL ps (List.replicate k ⟨DiskM.new c.sectors, 1⟩)) *
        (disksAt TD TS ps (List.replicate k (DiskM.new c.sectors)) * (pts B0 (.cells (cfgA c) TCfg (0, 0)) * F))))))) (by kernel_rfl)
        ((new_any sc _ w1 H1.out.2).mono fun e w' h => by
          obtain ⟨q', rfl, h1, h2⟩ := h
          rw [show DiskM.new sc = DiskM.new c.sectors by rw [HSC.out]] at h2
          exact ⟨_, rfl, q', rfl, H1.out.1.trans h1, h2⟩) ?_
      rintro _ w3 ⟨q, rfl, h3⟩
      have hS3 : w3.cell? ⟨p, 6, none⟩ = some vb ∧ w3.rangeAt B0 0 (cfgL c) := ⟨cells_at h3.out.2.right.block 6, (cfg_cells (h3.out.2.perm (show _ = pts B0 (.cells (cfgA c) TCfg (0, 0)) * (diskAt TD TS q (DiskM.new c.sectors) * (pts p (.cells (shelfC c vb (.slice none 0 0) false false 0) TSh (0, 0)) * (ownAt TBay 2 vb k (baysL ps (List.replicate k ⟨DiskM.new c.sectors, 1⟩)) *
        (disksAt TD TS ps (List.replicate k (DiskM.new c.sectors)) * F)))) from by ac_rfl))).2.2.2⟩
      refine ⟨hS3, ?_⟩
      simp only [List.setIfInBounds_toArray, List.set_cons_succ, List.set_cons_zero]
      (apply reg_take 8 rfl rfl (by decide +kernel) rfl); (rintro w' ⟨h1, h2⟩; go_simp; rfl); exact hS3; simp only [List.setIfInBounds_toArray, List.set_cons_succ, List.set_cons_zero]
      have hA4 := h3.out.2.alloc (.cells #[.pointer (some ⟨q, 0, none⟩), .int .i64 1] TBay)
      have hS4 : (w3.alloc (.cells #[.pointer (some ⟨q, 0, none⟩), .int .i64 1] TBay)).cell? ⟨p, 6, none⟩ = some vb ∧ (w3.alloc (.cells #[.pointer (some ⟨q, 0, none⟩), .int .i64 1] TBay)).rangeAt B0 0 (cfgL c) := ⟨cells_at hA4.right.right.block 6, fun j u hu => (World.cell?_alloc_lt _ _ _ (World.block_lt_of_cell? _ _ (hS3.2 j u hu))).trans (hS3.2 j u hu)⟩
      refine reg_run 9 (.slice (some ⟨w3.heap.size, 0, none⟩) 1 1) (w3.alloc (.cells #[.pointer (some ⟨q, 0, none⟩), .int .i64 1] TBay)) rfl rfl (by decide +kernel) rfl (by go_simp) (hS4) ?_; simp only [List.setIfInBounds_toArray, List.set_cons_succ, List.set_cons_zero]
      have hA5 := hA4.perm (show _ = ownAt TBay 2 vb k (baysL ps (List.replicate k ⟨DiskM.new c.sectors, 1⟩)) * (pts w3.heap.size (.cells #[.pointer (some ⟨q, 0, none⟩), .int .i64 1] TBay (0, 0)) * (diskAt TD TS q (DiskM.new c.sectors) * (pts p (.cells (shelfC c vb (.slice none 0 0) false false 0) TSh (0, 0)) *
        (disksAt TD TS ps (List.replicate k (DiskM.new c.sectors)) * (pts B0 (.cells (cfgA c) TCfg (0, 0)) * F))))) from by ac_rfl)
      obtain ⟨ti, hti, hz0, hts, hz2⟩ := info_parts info_Bay3
      obtain ⟨v', w5, hr, hsm5, hs5⟩ := run_append_ownAt (P := Tryz.prog) 56 56 TBay ti _ Tryz.underlying56 hti hz0 (by rw [hts]; rfl) vb k (baysL ps (List.replicate k ⟨DiskM.new c.sectors, 1⟩)) (by rw [hts]; exact hA5) ⟨w3.heap.size, 0, none⟩ 1 1 [.pointer (some ⟨q, 0, none⟩), .int .i64 1] (by rw [hts]; rfl)
        (by intro j u hu; rw [Addr.add_mid, cells_at hA5.right.block, Nat.zero_add]; simpa using hu) (by simp [Value.oneCell']) (by unfold maxLen; omega) (by rw [hz2]; omega)
      rw [hts] at hs5
      have hs6 := hs5.perm (show _ = pts p (.cells (shelfC c vb (.slice none 0 0) false false 0) TSh (0, 0)) * (ownAt TBay 2 v' (k + 1) (baysL ps (List.replicate k ⟨DiskM.new c.sectors, 1⟩) ++ [.pointer (some ⟨q, 0, none⟩), .int .i64 1]) *
        (pts w3.heap.size (.cells #[.pointer (some ⟨q, 0, none⟩), .int .i64 1] TBay (0, 0)) * (diskAt TD TS q (DiskM.new c.sectors) * (disksAt TD TS ps (List.replicate k (DiskM.new c.sectors)) * (pts B0 (.cells (cfgA c) TCfg (0, 0)) * F))))) from by ac_rfl)
      have hS6 : w5.cell? ⟨p, 6, none⟩ = some vb ∧ w5.rangeAt B0 0 (cfgL c) := ⟨cells_at hs6.block 6, (cfg_cells (hs6.perm (show _ = pts B0 (.cells (cfgA c) TCfg (0, 0)) * (pts p (.cells (shelfC c vb (.slice none 0 0) false false 0) TSh (0, 0)) * (ownAt TBay 2 v' (k + 1) (baysL ps (List.replicate k ⟨DiskM.new c.sectors, 1⟩) ++ [.pointer (some ⟨q, 0, none⟩), .int .i64 1]) *
        (pts w3.heap.size (.cells #[.pointer (some ⟨q, 0, none⟩), .int .i64 1] TBay (0, 0)) * (diskAt TD TS q (DiskM.new c.sectors) * (disksAt TD TS ps (List.replicate k (DiskM.new c.sectors)) * F))))) from by ac_rfl))).2.2.2⟩
      refine reg_run 10 (v') (w5) rfl rfl (by decide +kernel) rfl (exec_append rfl rfl rfl hr) (hS6) ?_; simp only [List.setIfInBounds_toArray, List.set_cons_succ, List.set_cons_zero]
      (apply reg_take 11 rfl rfl (by decide +kernel) rfl); (rintro w' ⟨h1, h2⟩; go_simp; rfl); exact hS6; simp only [List.setIfInBounds_toArray, List.set_cons_succ, List.set_cons_zero]
      (apply reg_take 12 rfl rfl (by decide +kernel) rfl); (rintro w' ⟨h1, h2⟩; go_simp; rfl); exact hS6; simp only [List.setIfInBounds_toArray, List.set_cons_succ, List.set_cons_zero]
      obtain ⟨ip, hip, hip2⟩ := Option.map_eq_some_iff.1 (show (Tryz.prog.info? 56).map (·.size) = some 1 by kernel_rfl)
      obtain ⟨ao', cp', rfl⟩ := ownAt_slice hs5
      refine reg_do_last 13 (w5.setCell ⟨p, 6, none⟩ (.slice ao' (k + 1) cp')) rfl rfl (by decide +kernel) rfl (exec_store_cell rfl rfl rfl hip hip2 rfl hS6.1 (thawed_at hs6.block 6)) ?_
      go_wp2
      go_roundw
      case rel =>
        refine ⟨⟨k + 1, ps ++ [q], .slice ao' (k + 1) cp', by omega, rfl, by rw [List.length_append, HPS.out]; rfl, (((h3.out.1.alloc _).trans hsm5).setCell _ _), ?_⟩⟩
        rw [List.replicate_succ', List.replicate_succ', baysL_app _ _ _ _ (by rw [HPS.out]; simp), disksAt_app _ _ _ _ (by rw [HPS.out]; simp)]
        have h9 := (hs6.setCell (i := 6) (.slice ao' (k + 1) cp'))
        exact (h9.perm (show _ = pts w3.heap.size (.cells #[.pointer (some ⟨q, 0, none⟩), .int .i64 1] TBay (0, 0)) * (pts p (.cells (shelfC c (.slice ao' (k + 1) cp') (.slice none 0 0) false false 0) TSh (0, 0)) * (ownAt TBay 2 (.slice ao' (k + 1) cp') (k + 1) (baysL ps (List.replicate k ⟨DiskM.new c.sectors, 1⟩) ++ [.pointer (some ⟨q, 0, none⟩), .int .i64 1]) *
          (disksAt TD TS ps (List.replicate k (DiskM.new c.sectors)) * diskAt TD TS q (DiskM.new c.sectors) * (pts B0 (.cells (cfgA c) TCfg (0, 0)) * F)))) from by unfold shelfC; simp only [List.setIfInBounds_toArray, List.set_cons_succ, List.set_cons_zero]; ac_rfl)).right
      case measure => simp only [intOf]; omega
    · have hltd : decide ((k : Int) < c.disks) = false := decide_eq_false hlt
      have hke : k = c.disks.toNat := by omega
      clear hra
      go_wp2
      go_ret2
      refine ⟨p, rfl, H1.out.1, shelfAt_iff.2 ⟨vb, .slice none 0 0, ps, [], ⟨new_wf HWF.out, by rw [HPS.out, hke]; simp [ShelfM.new], rfl⟩, ?_⟩⟩
      have h9 : Sat wr (ownAt TPtr 1 (.slice none 0 0) 0 [] * _) := ownAt_nil.2 H1.out.2
      rw [hke] at h9
      have e1 : (ShelfM.new c).bays = List.replicate c.disks.toNat ⟨DiskM.new c.sectors, 1⟩ := rfl
      have e2 : (ShelfM.new c).bays.map BayM.disk = List.replicate c.disks.toNat (DiskM.new c.sectors) := by rw [e1]; simp
      rw [e2, e1, List.length_replicate]
      have h10 := h9.perm (show _ = pts B0 (.cells (cfgA c) TCfg (0, 0)) * (pts p (.cells (shelfC c vb (.slice none 0 0) false false 0) TSh (0, 0)) * (ownAt TBay 2 vb c.disks.toNat (baysL ps (List.replicate c.disks.toNat ⟨DiskM.new c.sectors, 1⟩)) * (ownAt TPtr 1 (.slice none 0 0) 0 [] * (disksAt TD TS ps (List.replicate c.disks.toNat (DiskM.new c.sectors)) * F)))) from by ac_rfl)
      have h11 := h10.right
      exact h11.perm (by show _ = pts p _ * (_ * (ownAt TPtr 1 _ 0 [] * (_ * (emp * F)))); rw [emp_star]; rfl)
end Go.Proofs.YtogmkbhbmmgidaaGreat
end
section
namespace Go.Proofs.YtogmkbhbmmgidaaGreat
open Go.RowKit Go.Sl Go.ChangeMaps
structure OpN where
  kind : Int
  at_ : PlaceM
  dst : PlaceM
  n : Int
  fill : UInt8
  size : Int
  picks : List Int
def OpN.len (o : OpN) : Nat := (max 0 (min o.size 100)).toNat
def byteK (f : UInt8) (k : Nat) : UInt8 := f + UInt8.ofNat (k % 3)
def OpN.text (o : OpN) : List UInt8 := (List.range o.len).map (byteK o.fill)
def opN (o : OpN) (v : Value) : Array Value := #[.int .i64 o.kind, .int .i64 o.at_.disk, .int .i64 o.at_.area, .int .i64 o.at_.index, .int .i64 o.dst.disk, .int .i64 o.dst.area, .int .i64 o.dst.index, .int .i64 o.n, .int .u8 (o.fill.toNat : Int), .int .i64 o.size, v]
abbrev TOp : TypeId := 45
abbrev TB : TypeId := 5
theorem byteK_val (f : UInt8) (k : Nat) : ((f.toNat : Int) + (k : Int) % 3) % 256 = ((byteK f k).toNat : Int) := by
  unfold byteK
  rw [UInt8.toNat_add, UInt8.toNat_ofNat']
  omega
structure TextSt (w : World) (o : OpN) (pv : Value) (B g : Nat) (F : HProp) (i : Value) (wr : World) : Prop where
  st : ∃ (k : Nat) (cur : Array Value), k ≤ o.len ∧ i = .int .i64 k ∧ Same w wr ∧ cur.size = o.len ∧ (∀ j, j < k → cur[j]? = some (.int .u8 ((byteK o.fill j).toNat : Int))) ∧ Sat wr (pts B (.cells (opN o pv) TOp (0, 0)) * (pts g (.cells cur TB (0, 0)) * F))
set_option maxHeartbeats 1000000 in
theorem text_any (o : OpN) (pv : Value) (w : World) :
    Calls Tryz.prog 26 #[.agg (opN o pv)] w fun e w' => e = .returned (.string (strB o.text)) ∧ Hid (Below w.heap.size w w') := by
  obtain ⟨i0, hi, hz0, hz1, hz2⟩ := info_parts (show (Tryz.prog.info? TB).map (fun i => (i.zero, i.size, i.bytes)) = some (some (.int .u8 0), 1, 1) from by kernel_rfl)
  have hn : o.len ≤ 100 := by unfold OpN.len; omega
  have hni : (o.len : Int) = max 0 (min o.size 100) := by unfold OpN.len; omega
  obtain ⟨n, hnn⟩ : ∃ n, n = o.len := ⟨_, rfl⟩
  rw [← hnn] at hn hni
  have HN := Lib.hid hnn
  have HNI := Lib.hid hni
  have hk6 : Tryz.prog.cellsOf TOp = 11 := by kernel_rfl
  clear hnn hni
  go_enter Tryz.func26, Tryz.ntmps26
  go_upto_region 1 with (fail)
  have hs0 := (Sat.old w).alloc (.cells (opN o pv) TOp)
  have hsm0 := (Same.refl w).alloc (.cells (opN o pv) TOp)
  generalize w.alloc (.cells (opN o pv) TOp) = w1 at hs0 hsm0 ⊢
  generalize w.heap.size = B at hs0 ⊢
  have c4 : w1.cell? ⟨B, 9, none⟩ = some (.int .i64 o.size) := by rw [cells_at hs0.block]; rfl
  have H0 := Lib.hid (And.intro hsm0 hs0)
  clear hs0 hsm0
  go_wp2_with (at_make; rw [← HNI.out]; refine wpList_make_full _ rfl _ _ 51 rfl w1.heap.size TB i0 (.int .u8 0) 1 Tryz.underlying51 hi hz0 hz1 .i64 .i64 _ _ n rfl rfl ?_ ?_ ?_ ?_ ?_ ?_)
  all_goals first | rfl | omega | (rw [hz2]; omega) | (unfold maxLen; omega) | exact Nat.zero_le _ | exact Nat.le_refl _ | skip
  intro w2 hown hg
  have hs2 := Sat.ownRow H0.out.2 (fun k hk => hg.block k hk (by simp)) (Nat.le_refl _) hown
  have hsm2 : Same w w2 := H0.out.1.trans ⟨hg.os, hg.tape, hg.output, hg.size⟩
  rcases ownAt_iff.1 hs2 with ⟨h, _⟩ | ⟨g, cap, cur, ⟨hv, _, _, hcs, _, _⟩, hs3⟩
  · simp at h
  injection hv with hv1 hv2 hv3
  obtain rfl : w1.heap.size = g := by simpa using hv1
  subst hv3
  have hst : TextSt w o pv B w1.heap.size (old w) (.int .i64 0) w2 := ⟨⟨0, cur, Nat.zero_le _, rfl, hsm2, by rw [hcs, ← HN.out, Nat.mul_one], by intro j hj; omega, hs3.perm (by ac_rfl)⟩⟩
  have HST := Lib.hid hst
  clear hst hs3 hs2 hsm2 hown hg hcs c4
  generalize w1.heap.size = g at HST ⊢
  go_wp2
  go_loopw [4] (fun i wr => TextSt w o pv B g (old w) i wr) (fun i _ => n - (intOf i).toNat)
  case atStart => exact HST.out
  case round =>
    obtain ⟨k, cur, hk, rfl, hsm, hcz, hcells, hs⟩ := hrel.st
    clear hrel
    rw [← HN.out] at hk hcz
    have c3 : wr.cell? ⟨B, 8, none⟩ = some (.int .u8 (o.fill.toNat : Int)) := by rw [cells_at hs.block]; rfl
    have HS := Lib.hid (And.intro hsm hs)
    have HC := Lib.hid hcells
    clear hsm hcells
    by_cases hlt : k < n
    · have hltd : decide ((k : Int) < (n : Int)) = true := decide_eq_true (by omega)
      have hki : (k : Int) ≤ 100 := by omega
      have hk0 : (0 : Int) ≤ (k : Int) := by omega
      have hkn : (k : Int) < (n : Int) := by omega
      obtain ⟨u, hu⟩ : ∃ u, cur[k]? = some u := ⟨_, Array.getElem?_eq_getElem (by omega)⟩
      have ck : wr.cell? ⟨g, k, none⟩ = some u := by rw [cells_at hs.right.block]; exact hu
      have fk : wr.frozen? ⟨g, k, none⟩ = false := thawed_at hs.right.block _
      clear hs
      go_wp2
      rw [byteK_val]
      refine ⟨⟨k + 1, cur.setIfInBounds k (.int .u8 ((byteK o.fill k).toNat : Int)), by rw [← HN.out]; omega, rfl, HS.out.1.setCell _ _, by rw [Array.size_setIfInBounds, hcz, ← HN.out], ?_, ?_⟩, by simp only [intOf]; omega⟩
      · intro j hj
        rw [Array.getElem?_setIfInBounds]
        split
        · rename_i hkj; subst hkj; rw [if_pos (by omega)]
        · exact HC.out j (by omega)
      · exact ((HS.out.2.perm (show _ = pts g (.cells cur TB (0, 0)) * (pts B (.cells (opN o pv) TOp (0, 0)) * old w) from by ac_rfl)).setCell (i := k) (.int .u8 ((byteK o.fill k).toNat : Int))).perm (by ac_rfl)
    · obtain rfl : k = n := by omega
      have hltd : decide ((k : Int) < (k : Int)) = false := decide_eq_false (by omega)
      have hlen : o.text.length = k := by rw [HN.out]; simp [OpN.text]
      have hcv : (convert 51 9 (.slice (some ⟨g, 0, none⟩) k k)).run Tryz.prog wr = .ok (.string (strB o.text)) wr := by
        have := run_convert_bytes_back (P := Tryz.prog) wr 51 9 5 ⟨g, 0, none⟩ k o.text Tryz.underlying51 Tryz.underlying5 Tryz.underlying9 (by
          intro j hj
          rw [Addr.add_mid, cells_at hs.right.block, Nat.zero_add, HC.out j (by omega)]
          simp [OpN.text])
        rw [hlen] at this; exact this
      clear hs
      go_wp2_with ((with_reducible (refine wpList_run ?_ (exec_convert ?_ ?_ hcv) ?_)); rfl; rfl; rfl)
      go_ret
      exact ⟨rfl, HS.out.1.below_of (HS.out.2.perm (show _ = pts B (.cells (opN o pv) TOp (0, 0)) * pts g (.cells cur TB (0, 0)) * old w from by ac_rfl))⟩
def sec17 (c : CfgM) : Int := wrap64 (wrap64 (c.log + wrap64 (2 * c.image)) + c.rows)
set_option maxHeartbeats 400000 in
theorem sec17_any (c : CfgM) (w : World) : Calls Tryz.prog 18 #[.agg (cfgA c)] w fun e w' => e = .returned (.int .i64 (sec17 c)) ∧ Hid (Below w.heap.size w w') := by
  go_enter Tryz.func18, Tryz.ntmps18
  go_wp2
  go_ret
  exact ⟨rfl, (Below.refl _ _).alloc (Nat.le_refl _) _⟩
def smallB (c : CfgM) : Bool := decide (c.disks ≤ 6) && decide (c.log ≤ 24) && decide (c.image ≤ 24) && decide (c.rows ≤ 24) && decide (sec17 c ≤ 24)
set_option maxHeartbeats 1000000 in
theorem small_any (c : CfgM) (w : World) : Calls Tryz.prog 5 #[.agg (cfgA c)] w fun e w' => e = .returned (.bool (smallB c)) ∧ Hid (Below w.heap.size w w') := by
  have he : smallB c = (decide (c.disks ≤ 6) && decide (c.log ≤ 24) && decide (c.image ≤ 24) && decide (c.rows ≤ 24) && decide (sec17 c ≤ 24)) := rfl
  have hs := fun w => sec17_any c w
  obtain ⟨x, hx⟩ : ∃ x, sec17 c = x := ⟨_, rfl⟩
  rw [hx] at he hs
  have HS := Lib.hid hs
  clear hs hx
  cases h1 : decide (c.disks ≤ 6)
  · rw [he, h1]; clear he
    go_enter Tryz.func5, Tryz.ntmps5
    go_wp2
    go_ret
    exact ⟨rfl, (Below.refl _ _).alloc (Nat.le_refl _) _⟩
  cases h2 : decide (c.log ≤ 24)
  · rw [he, h1, h2]; clear he
    go_enter Tryz.func5, Tryz.ntmps5
    go_wp2
    go_ret
    exact ⟨rfl, (Below.refl _ _).alloc (Nat.le_refl _) _⟩
  cases h3 : decide (c.image ≤ 24)
  · rw [he, h1, h2, h3]; clear he
    go_enter Tryz.func5, Tryz.ntmps5
    go_wp2
    go_ret
    exact ⟨rfl, (Below.refl _ _).alloc (Nat.le_refl _) _⟩
  cases h4 : decide (c.rows ≤ 24)
  · rw [he, h1, h2, h3, h4]; clear he
    go_enter Tryz.func5, Tryz.ntmps5
    go_wp2
    go_ret
    exact ⟨rfl, (Below.refl _ _).alloc (Nat.le_refl _) _⟩
  rw [he, h1, h2, h3, h4]; clear he
  go_enter Tryz.func5, Tryz.ntmps5
  go_wp2_with (go_at_call 18; refine (HS.out _).mono ?_; rintro e w1 ⟨rfl, hb⟩)
  go_ret
  exact ⟨rfl, Below.trans ((Below.refl _ _).alloc (Nat.le_refl _) _) (hb.out.mono (by simp))⟩
end Go.Proofs.YtogmkbhbmmgidaaGreat
end
