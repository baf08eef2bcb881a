import Derived.Test.YtogmkbhbmmgidaaGreatP14
import Derived.Test.YtogmkbhbmmgidaaGreatP17
import Derived.Test.YtogmkbhbmmgidaaGreatP20
import Derived.Test.YtogmkbhbmmgidaaGreatP08
/- Part 35 of a proof; the last part says what is proved. -/
section
namespace Go.Proofs.YtogmkbhbmmgidaaGreat
open Go.RowKit Go.Sl Go.ChangeMaps
theorem info_PtrC : (Tryz.prog.info? TPtr).map (fun i => (i.zero, i.size, i.bytes)) = some (some (.pointer none), 1, 8) := by kernel_rfl
structure ClSt (w : World) (q : Nat) (S : ShelfM) (O : HProp) (i : Value) (wr : World) : Prop where
  st : ∃ (k : Nat) (qs : List Nat) (vb : Value), k ≤ S.bays.length ∧ i = .int .i64 k ∧ qs.length = k ∧ Same w wr ∧
    Sat wr (pts q (.cells (shelfC S.cfg vb (.slice none 0 0) S.off S.fused S.left) TSh (0, 0)) * (ownAt TBay 2 vb k (baysL qs (S.bays.take k)) * (disksAt TD TS qs ((S.bays.take k).map BayM.disk) * O)))
structure ClSt2 (w : World) (q : Nat) (S : ShelfM) (rs : List Nat) (vb : Value) (O : HProp) (i : Value) (wr : World) : Prop where
  st : ∃ (k : Nat) (us : List Nat) (vi : Value), k ≤ S.images.length ∧ i = .int .i64 k ∧ us.length = k ∧ Same w wr ∧
    Sat wr (pts q (.cells (shelfC S.cfg vb vi S.off S.fused S.left) TSh (0, 0)) * (ownAt TBay 2 vb S.bays.length (baysL rs S.bays) * (disksAt TD TS rs (S.bays.map BayM.disk) * (ownAt TPtr 1 vi k (us.map ptrV) * (disksAt TD TS us (S.images.take k) * O)))))
set_option maxHeartbeats 2000000 in
theorem shclone_any (p : Nat) (S : ShelfM) (F : HProp) (w : World) (hS : Sat w (shelfAt SH p S * F)) (hil : S.images.length ≤ 1000000) :
    Calls Tryz.prog 8 #[.pointer (some ⟨p, 0, none⟩)] w fun e w' => ∃ q, e = .returned (.pointer (some ⟨q, 0, none⟩)) ∧ Hid (Same w w' ∧ Sat w' (shelfAt SH q S * (shelfAt SH p S * F))) := by
  obtain ⟨vb, vi, ps, qs, ⟨hwf, hl1, hl2⟩, hs⟩ := shelfAt_iff.1 hS
  obtain ⟨bo, bc, rfl⟩ := ownAt_slice hs.right
  obtain ⟨io, ic, rfl⟩ := ownAt_slice hs.right.right
  have hb := cells_at hs.block
  have c0 : w.cell? ⟨p, 0, none⟩ = some (.int .i64 S.cfg.disks) := hb 0
  have c1 : w.cell? ⟨p, 1, none⟩ = some (.int .i64 S.cfg.racks) := hb 1
  have c2 : w.cell? ⟨p, 2, none⟩ = some (.int .i64 S.cfg.rows) := hb 2
  have c3 : w.cell? ⟨p, 3, none⟩ = some (.int .i64 S.cfg.spare) := hb 3
  have c4 : w.cell? ⟨p, 4, none⟩ = some (.int .i64 S.cfg.log) := hb 4
  have c5 : w.cell? ⟨p, 5, none⟩ = some (.int .i64 S.cfg.image) := hb 5
  have c6 : w.cell? ⟨p, 6, none⟩ = some (.slice bo S.bays.length bc) := hb 6
  have c7 : w.cell? ⟨p, 7, none⟩ = some (.slice io S.images.length ic) := hb 7
  have c8 : w.cell? ⟨p, 8, none⟩ = some (.bool S.off) := hb 8
  have c9 : w.cell? ⟨p, 9, none⟩ = some (.bool S.fused) := hb 9
  have c10 : w.cell? ⟨p, 10, none⟩ = some (.int .i64 S.left) := hb 10
  have hlp := hs.lt
  clear hb hS
  have H0 := Lib.hid (And.intro (Same.refl w) hs)
  go_enter Tryz.func8, Tryz.ntmps8
  go_upto_region 3 with (fail)
  have hl := hs.alloc (.cells (shelfC S.cfg (.slice none 0 0) (.slice none 0 0) S.off S.fused S.left) TSh)
  have hsm := (Same.refl w).alloc (.cells (shelfC S.cfg (.slice none 0 0) (.slice none 0 0) S.off S.fused S.left) TSh)
  generalize hO : pts p (.cells (shelfC S.cfg (.slice bo S.bays.length bc) (.slice io S.images.length ic) S.off S.fused S.left) SH.sh (0, 0)) * (ownAt SH.bay 2 (.slice bo S.bays.length bc) S.bays.length (baysL ps S.bays) * (ownAt SH.ptr 1 (.slice io S.images.length ic) S.images.length (qs.map ptrV) * (disksAt SH.disk SH.sec ps (S.bays.map BayM.disk) * (disksAt SH.disk SH.sec qs S.images * F)))) = O at hl
  have HO := Lib.hid hO
  have hst : ClSt w w.heap.size S O (.int .i64 0) (w.alloc (.cells (shelfC S.cfg (.slice none 0 0) (.slice none 0 0) S.off S.fused S.left) TSh)) := ⟨⟨0, [], .slice none 0 0, Nat.zero_le _, rfl, rfl, hsm, by
    have h9 : Sat _ (ownAt TBay 2 (.slice none 0 0) 0 [] * _) := ownAt_nil.2 hl
    exact h9.perm (by show _ = pts _ _ * (ownAt TBay 2 _ 0 [] * (emp * O)); rw [emp_star]; ac_rfl)⟩⟩
  have HST := Lib.hid (And.intro hst (And.intro hwf (And.intro hl1 hl2)))
  have e6 : (w.alloc (.cells (shelfC S.cfg (.slice none 0 0) (.slice none 0 0) S.off S.fused S.left) TSh)).cell? ⟨p, 6, none⟩ = some (.slice bo S.bays.length bc) := (World.cell?_alloc_lt _ _ _ hlp).trans c6
  unfold shelfC at HST e6
  generalize w.alloc (.cells _ TSh) = W at HST e6 ⊢
  generalize w.heap.size = q at HST ⊢
  clear c0 c1 c2 c3 c4 c5 c6 c7 c8 c9 c10 hlp hO hl hsm hst hs H0 hwf hl1 hl2
  go_wp2
  go_loopw [18] (fun i wr => ClSt w q S O i wr) (fun i _ => S.bays.length - (intOf i).toNat)
  case atStart => exact HST.out.1
  case round =>
    obtain ⟨k, rs, vb, hk, rfl, hrs, hsm, hs⟩ := hrel.st
    clear hrel
    have H1 := Lib.hid (And.intro hsm hs)
    have HRS := Lib.hid hrs
    clear hsm hs hrs
    have hb64 : S.bays.length ≤ 64 := by have h1 := HST.out.2.1.bays; have h2 := HST.out.2.1.cfg.disks; omega
    by_cases hlt : k < S.bays.length
    case pos =>
      have hltd : decide ((k : Int) < (S.bays.length : Int)) = true := decide_eq_true (by omega)
      have hk64 : (k : Int) ≤ 64 := by omega
      obtain ⟨b, hb⟩ : ∃ b, S.bays[k]? = some b := ⟨_, List.getElem?_eq_getElem hlt⟩
      obtain ⟨r0, hr0⟩ : ∃ r, ps[k]? = some r := ⟨_, List.getElem?_eq_getElem (by rw [HST.out.2.2.1]; exact hlt)⟩
      obtain ⟨g, gcap, hv, hcell⟩ := ownAt_cells (H1.out.2.perm (show _ = ownAt TBay 2 (.slice bo S.bays.length bc) S.bays.length (baysL ps S.bays) * (pts p (.cells (shelfC S.cfg (.slice bo S.bays.length bc) (.slice io S.images.length ic) S.off S.fused S.left) TSh (0, 0)) * (ownAt TPtr 1 (.slice io S.images.length ic) S.images.length (qs.map ptrV) * (disksAt TD TS ps (S.bays.map BayM.disk) * (disksAt TD TS qs S.images * (F * (pts q (.cells (shelfC S.cfg vb (.slice none 0 0) S.off S.fused S.left) TSh (0, 0)) * (ownAt TBay 2 vb k (baysL rs (S.bays.take k)) * disksAt TD TS rs ((S.bays.take k).map BayM.disk))))))))  from by rw [← HO.out]; ac_rfl)) (by omega)
      obtain ⟨rfl, _, rfl⟩ : bo = some ⟨g, 0, none⟩ ∧ True ∧ bc = gcap := by simpa using hv
      have b0 := hcell _ _ (baysL_at ps S.bays k r0 b hr0 hb).1
      have b1 := hcell _ _ (baysL_at ps S.bays k r0 b hr0 hb).2
      unfold ptrV at b0
      obtain ⟨R, hR⟩ := disksAt_split (TD := TD) (TS := TS) ps (S.bays.map BayM.disk) k (by rw [HST.out.2.2.1]; exact hlt) (by simpa using hlt)
      have hR' := hR r0 b.disk
      rw [set_self hr0, set_self (by simp [hb])] at hR'
      have HR := Lib.hid hR'
      have HB := Lib.hid (And.intro hb hr0)
      clear hR hR' hb hr0 hcell hv e6
      go_upto_region 6 with (fail)
      have hO2 : O = diskAt TD TS r0 b.disk * (pts p (.cells (shelfC S.cfg (.slice (some ⟨g, 0, none⟩) S.bays.length bc) (.slice io S.images.length ic) S.off S.fused S.left) TSh (0, 0)) * (ownAt TBay 2 (.slice (some ⟨g, 0, none⟩) S.bays.length bc) S.bays.length (baysL ps S.bays) * (ownAt TPtr 1 (.slice io S.images.length ic) S.images.length (qs.map ptrV) * (R * (disksAt TD TS qs S.images * F))))) := by
        rw [← HO.out]
        show pts p _ * (_ * (_ * (disksAt TD TS ps (S.bays.map BayM.disk) * _))) = _
        rw [HR.out]; ac_rfl
      have HO2 := Lib.hid hO2
      clear hO2
      have hA2 := (H1.out.2.alloc (.cells #[.pointer (some ⟨r0, 0, none⟩), .int .i64 b.state] TBay))
      have hsm2 := H1.out.1.alloc (.cells #[.pointer (some ⟨r0, 0, none⟩), .int .i64 b.state] TBay)
      generalize wr.alloc (.cells #[.pointer (some ⟨r0, 0, none⟩), .int .i64 b.state] TBay) = W2 at hA2 hsm2 ⊢
      generalize wr.heap.size = B5 at hA2 ⊢
      have H2 := Lib.hid (And.intro hsm2 (hA2.perm (show _ = pts q (.cells (shelfC S.cfg vb (.slice none 0 0) S.off S.fused S.left) TSh (0, 0)) * (pts B5 (.cells #[.pointer (some ⟨r0, 0, none⟩), .int .i64 b.state] TBay (0, 0)) * (ownAt TBay 2 vb k (baysL rs (S.bays.take k)) * (disksAt TD TS rs ((S.bays.take k).map BayM.disk) * O))) from by ac_rfl)))
      clear hA2 hsm2 H1 b0 b1
      have hS0 : W2.drew.cell? ⟨q, 6, none⟩ = some vb ∧ W2.drew.cell? ⟨B5, 0, none⟩ = some (.pointer (some ⟨r0, 0, none⟩)) ∧ W2.drew.cell? ⟨B5, 1, none⟩ = some (.int .i64 b.state) := ⟨cells_at H2.out.2.block 6, cells_at H2.out.2.right.block 0, cells_at H2.out.2.right.block 1⟩
      refine reg_begin (fun w' => w'.cell? ⟨q, 6, none⟩ = some vb ∧ w'.cell? ⟨B5, 0, none⟩ = some (.pointer (some ⟨r0, 0, none⟩)) ∧ w'.cell? ⟨B5, 1, none⟩ = some (.int .i64 b.state)) (by kernel_rfl) ?_
      (apply reg_take 0 rfl rfl (by decide +kernel) rfl); (rintro w' ⟨h1, h2, h3⟩; go_simp; rfl); exact hS0; simp only [List.setIfInBounds_toArray, List.set_cons_succ, List.set_cons_zero]
      (apply reg_take 1 rfl rfl (by decide +kernel) rfl); (rintro w' ⟨h1, h2, h3⟩; go_simp; rfl); exact hS0; simp only [List.setIfInBounds_toArray, List.set_cons_succ, List.set_cons_zero]
      (apply reg_take 2 rfl rfl (by decide +kernel) rfl); (rintro w' ⟨h1, h2, h3⟩; go_simp; rfl); exact hS0; simp only [List.setIfInBounds_toArray, List.set_cons_succ, List.set_cons_zero]
      (apply reg_take 3 rfl rfl (by decide +kernel) rfl); (rintro w' ⟨h1, h2, h3⟩; go_simp; rfl); exact hS0; simp only [List.setIfInBounds_toArray, List.set_cons_succ, List.set_cons_zero]
      (apply reg_take 5 rfl rfl (by decide +kernel) rfl); (rintro w' ⟨h1, h2, h3⟩; go_simp; rfl); exact hS0; simp only [List.setIfInBounds_toArray, List.set_cons_succ, List.set_cons_zero]
      (apply reg_take 6 rfl rfl (by decide +kernel) rfl); (rintro w' ⟨h1, h2, h3⟩; go_simp; rfl); exact hS0; simp only [List.setIfInBounds_toArray, List.set_cons_succ, List.set_cons_zero]
      have hcl := clone_any r0 b.disk ((pts p (.cells (shelfC S.cfg (.slice (some ⟨g, 0, none⟩) S.bays.length bc) (.slice io S.images.length ic) S.off S.fused S.left) TSh (0, 0)) * (ownAt TBay 2 (.slice (some ⟨g, 0, none⟩) S.bays.length bc) S.bays.length (baysL ps S.bays) * (ownAt TPtr 1 (.slice io S.images.length ic) S.images.length (qs.map ptrV) * (R * (disksAt TD TS qs S.images * F))))) * (pts q (.cells (shelfC S.cfg vb (.slice none 0 0) S.off S.fused S.left) TSh (0, 0)) * (pts B5 (.cells #[.pointer (some ⟨r0, 0, none⟩), .int .i64 b.state] TBay (0, 0)) * (ownAt TBay 2 vb k (baysL rs (S.bays.take k)) * disksAt TD TS rs ((S.bays.take k).map BayM.disk))))) W2.drew (H2.out.2.drew.perm (show _ = diskAt TD TS r0 b.disk * ((pts p (.cells (shelfC S.cfg (.slice (some ⟨g, 0, none⟩) S.bays.length bc) (.slice io S.images.length ic) S.off S.fused S.left) TSh (0, 0)) * (ownAt TBay 2 (.slice (some ⟨g, 0, none⟩) S.bays.length bc) S.bays.length (baysL ps S.bays) * (ownAt TPtr 1 (.slice io S.images.length ic) S.images.length (qs.map ptrV) * (R * (disksAt TD TS qs S.images * F))))) * (pts q (.cells (shelfC S.cfg vb (.slice none 0 0) S.off S.fused S.left) TSh (0, 0)) * (pts B5 (.cells #[.pointer (some ⟨r0, 0, none⟩), .int .i64 b.state] TBay (0, 0)) * (ownAt TBay 2 vb k (baysL rs (S.bays.take k)) * disksAt TD TS rs ((S.bays.take k).map BayM.disk))))) from by rw [HO2.out]; ac_rfl))
      refine reg_call 4 rfl rfl (by decide +kernel) rfl (f := 24) (args := #[.pointer (some ⟨r0, 0, none⟩)]) (R := fun v w' => ∃ q1, v = .pointer (some ⟨q1, 0, none⟩) ∧ Hid (Same w w' ∧ Sat w' (pts q (.cells (shelfC S.cfg vb (.slice none 0 0) S.off S.fused S.left) TSh (0, 0)) * (pts B5 (.cells #[.pointer (some ⟨r0, 0, none⟩), .int .i64 b.state] TBay (0, 0)) * (ownAt TBay 2 vb k (baysL rs (S.bays.take k)) * (disksAt TD TS rs ((S.bays.take k).map BayM.disk) * (diskAt TD TS q1 b.disk * O))))))) (by kernel_rfl)
        (hcl.mono fun e w' h => by
          obtain ⟨q', rfl, h1, h2⟩ := h
          refine ⟨_, rfl, q', rfl, (H2.out.1.drew).trans h1, h2.perm (by rw [HO2.out]; ac_rfl)⟩) ?_
      rintro _ w3 ⟨q1, rfl, h3⟩
      have hS3 : w3.cell? ⟨q, 6, none⟩ = some vb ∧ w3.cell? ⟨B5, 0, none⟩ = some (.pointer (some ⟨r0, 0, none⟩)) ∧ w3.cell? ⟨B5, 1, none⟩ = some (.int .i64 b.state) := ⟨cells_at h3.out.2.block 6, cells_at h3.out.2.right.block 0, cells_at h3.out.2.right.block 1⟩
      refine ⟨hS3, ?_⟩
      simp only [List.setIfInBounds_toArray, List.set_cons_succ, List.set_cons_zero]
      (apply reg_take 7 rfl rfl (by decide +kernel) rfl); (rintro w' ⟨h1, h2, h3⟩; go_simp; rfl); exact hS3; simp only [List.setIfInBounds_toArray, List.set_cons_succ, List.set_cons_zero]
      have hA4 := h3.out.2.alloc (.cells #[.pointer (some ⟨q1, 0, none⟩), .int .i64 b.state] TBay)
      have hS4 : (w3.alloc (.cells #[.pointer (some ⟨q1, 0, none⟩), .int .i64 b.state] TBay)).cell? ⟨q, 6, none⟩ = some vb ∧ (w3.alloc (.cells #[.pointer (some ⟨q1, 0, none⟩), .int .i64 b.state] TBay)).cell? ⟨B5, 0, none⟩ = some (.pointer (some ⟨r0, 0, none⟩)) ∧ (w3.alloc (.cells #[.pointer (some ⟨q1, 0, none⟩), .int .i64 b.state] TBay)).cell? ⟨B5, 1, none⟩ = some (.int .i64 b.state) := ⟨cells_at hA4.right.block 6, cells_at hA4.right.right.block 0, cells_at hA4.right.right.block 1⟩
      refine reg_run 8 (.slice (some ⟨w3.heap.size, 0, none⟩) 1 1) (w3.alloc (.cells #[.pointer (some ⟨q1, 0, none⟩), .int .i64 b.state] TBay)) rfl rfl (by decide +kernel) rfl (by go_simp) (hS4) ?_; simp only [List.setIfInBounds_toArray, List.set_cons_succ, List.set_cons_zero]
      have hA5 := hA4.perm (show _ = ownAt TBay 2 vb k (baysL rs (S.bays.take k)) * (pts w3.heap.size (.cells #[.pointer (some ⟨q1, 0, none⟩), .int .i64 b.state] TBay (0, 0)) * (pts q (.cells (shelfC S.cfg vb (.slice none 0 0) S.off S.fused S.left) TSh (0, 0)) * (pts B5 (.cells #[.pointer (some ⟨r0, 0, none⟩), .int .i64 b.state] TBay (0, 0)) * (disksAt TD TS rs ((S.bays.take k).map BayM.disk) * (diskAt TD TS q1 b.disk * O))))) from by ac_rfl)
      obtain ⟨ti, hti, hz0, hts, hz2⟩ := info_parts info_Bay3
      have hlw : (S.bays.take k).length = k := by rw [List.length_take]; omega
      obtain ⟨v', w5, hr, hsm5, hs5⟩ := run_append_ownAt (P := Tryz.prog) 56 56 TBay ti _ Tryz.underlying56 hti hz0 (by rw [hts]; rfl) vb k (baysL rs (S.bays.take k)) (by rw [hts]; exact hA5) ⟨w3.heap.size, 0, none⟩ 1 1 [.pointer (some ⟨q1, 0, none⟩), .int .i64 b.state] (by rw [hts]; rfl)
        (by intro j u hu; rw [Addr.add_mid, cells_at hA5.right.block, Nat.zero_add]; simpa using hu) (by simp [Value.oneCell']) (by unfold maxLen; omega) (by rw [hz2]; omega)
      rw [hts] at hs5
      have hs6 := hs5.perm (show _ = pts q (.cells (shelfC S.cfg vb (.slice none 0 0) S.off S.fused S.left) TSh (0, 0)) * (pts B5 (.cells #[.pointer (some ⟨r0, 0, none⟩), .int .i64 b.state] TBay (0, 0)) * (ownAt TBay 2 v' (k + 1) (baysL rs (S.bays.take k) ++ [.pointer (some ⟨q1, 0, none⟩), .int .i64 b.state]) * (pts w3.heap.size (.cells #[.pointer (some ⟨q1, 0, none⟩), .int .i64 b.state] TBay (0, 0)) * (disksAt TD TS rs ((S.bays.take k).map BayM.disk) * (diskAt TD TS q1 b.disk * O))))) from by ac_rfl)
      have hS6 : w5.cell? ⟨q, 6, none⟩ = some vb ∧ w5.cell? ⟨B5, 0, none⟩ = some (.pointer (some ⟨r0, 0, none⟩)) ∧ w5.cell? ⟨B5, 1, none⟩ = some (.int .i64 b.state) := ⟨cells_at hs6.block 6, cells_at hs6.right.block 0, cells_at hs6.right.block 1⟩
      refine reg_run 9 (v') (w5) rfl rfl (by decide +kernel) rfl (exec_append rfl rfl rfl hr) (hS6) ?_; simp only [List.setIfInBounds_toArray, List.set_cons_succ, List.set_cons_zero]
      (apply reg_take 10 rfl rfl (by decide +kernel) rfl); (rintro w' ⟨h1, h2, h3⟩; go_simp; rfl); exact hS6; simp only [List.setIfInBounds_toArray, List.set_cons_succ, List.set_cons_zero]
      obtain ⟨ip, hip, hip2⟩ := Option.map_eq_some_iff.1 (show (Tryz.prog.info? 56).map (·.size) = some 1 by kernel_rfl)
      obtain ⟨ao', cp', rfl⟩ := ownAt_slice hs5
      refine reg_do_last 11 (w5.setCell ⟨q, 6, none⟩ (.slice ao' (k + 1) cp')) rfl rfl (by decide +kernel) rfl (exec_store_cell rfl rfl rfl hip hip2 rfl hS6.1 (thawed_at hs6.block 6)) ?_
      go_wp2
      refine ⟨⟨⟨k + 1, rs ++ [q1], .slice ao' (k + 1) cp', by omega, rfl, by rw [List.length_append, HRS.out]; rfl, ((h3.out.1.alloc _).trans hsm5).setCell _ _, ?_⟩⟩, by simp only [intOf]; omega⟩
      have htk : S.bays.take (k + 1) = S.bays.take k ++ [b] := by rw [List.take_add_one, HB.out.1]; rfl
      rw [htk, List.map_append, List.map_cons, List.map_nil, baysL_app _ _ _ _ (by rw [HRS.out, hlw]), disksAt_app _ _ _ _ (by rw [HRS.out, List.length_map, hlw])]
      have h9 := hs6.setCell (i := 6) (.slice ao' (k + 1) cp')
      refine Sat.right (P := pts B5 (.cells #[.pointer (some ⟨r0, 0, none⟩), .int .i64 b.state] TBay (0, 0)) * pts w3.heap.size (.cells #[.pointer (some ⟨q1, 0, none⟩), .int .i64 b.state] TBay (0, 0))) (h9.perm ?_)
      unfold shelfC
      simp only [List.setIfInBounds_toArray, List.set_cons_succ, List.set_cons_zero]
      show _ = _ * (_ * (ownAt TBay 2 _ _ (_ ++ [.pointer (some ⟨q1, 0, none⟩), .int .i64 b.state]) * _))
      ac_rfl
    case neg =>
      have hke : k = S.bays.length := by omega
      have hltd : decide ((k : Int) < (S.bays.length : Int)) = false := decide_eq_false (by omega)
      have c7 : wr.cell? ⟨p, 7, none⟩ = some (.slice io S.images.length ic) := cells_at (H1.out.2.perm (show _ = pts p (.cells (shelfC S.cfg (.slice bo S.bays.length bc) (.slice io S.images.length ic) S.off S.fused S.left) TSh (0, 0)) * (ownAt TBay 2 (.slice bo S.bays.length bc) S.bays.length (baysL ps S.bays) * (ownAt TPtr 1 (.slice io S.images.length ic) S.images.length (qs.map ptrV) * (disksAt TD TS ps (S.bays.map BayM.disk) * (disksAt TD TS qs S.images * (F * (pts q (.cells (shelfC S.cfg vb (.slice none 0 0) S.off S.fused S.left) TSh (0, 0)) * (ownAt TBay 2 vb k (baysL rs (S.bays.take k)) * disksAt TD TS rs ((S.bays.take k).map BayM.disk)))))))) from by rw [← HO.out]; ac_rfl)).block 7
      clear e6
      go_wp2
      subst hke
      rw [List.take_length] at H1
      have H2 := Lib.hid (show ClSt2 w q S rs vb O (.int .i64 0) wr from ⟨⟨0, [], .slice none 0 0, Nat.zero_le _, rfl, rfl, H1.out.1, by
        have h9 : Sat wr (ownAt TPtr 1 (.slice none 0 0) 0 [] * _) := ownAt_nil.2 H1.out.2
        exact h9.perm (by show _ = pts q _ * (_ * (_ * (ownAt TPtr 1 _ 0 [] * (emp * O)))); rw [emp_star]; ac_rfl)⟩⟩)
      clear H1 hltd hk c7
      go_loopw [39] (fun i wr => ClSt2 w q S rs vb O i wr) (fun i _ => S.images.length - (intOf i).toNat)
      case atStart => exact H2.out
      case round =>
        obtain ⟨k, us, vi, hk, rfl, hus, hsm, hs⟩ := hrel.st
        clear hrel H2
        have H1 := Lib.hid (And.intro hsm hs)
        have HUS := Lib.hid hus
        clear hsm hs hus
        by_cases hlt : k < S.images.length
        case pos =>
          have hltd : decide ((k : Int) < (S.images.length : Int)) = true := decide_eq_true (by omega)
          have hkm : (k : Int) ≤ 1000000 := by omega
          obtain ⟨D, hD⟩ : ∃ D, S.images[k]? = some D := ⟨_, List.getElem?_eq_getElem hlt⟩
          obtain ⟨r0, hr0⟩ : ∃ r, qs[k]? = some r := ⟨_, List.getElem?_eq_getElem (by rw [HST.out.2.2.2]; exact hlt)⟩
          obtain ⟨g, gcap, hv, hcell⟩ := ownAt_cells (H1.out.2.perm (show _ = ownAt TPtr 1 (.slice io S.images.length ic) S.images.length (qs.map ptrV) * (pts p (.cells (shelfC S.cfg (.slice bo S.bays.length bc) (.slice io S.images.length ic) S.off S.fused S.left) TSh (0, 0)) * (ownAt TBay 2 (.slice bo S.bays.length bc) S.bays.length (baysL ps S.bays) * (disksAt TD TS ps (S.bays.map BayM.disk) * (disksAt TD TS qs S.images * (F * (pts q (.cells (shelfC S.cfg vb vi S.off S.fused S.left) TSh (0, 0)) * (ownAt TBay 2 vb S.bays.length (baysL rs S.bays) * (disksAt TD TS rs (S.bays.map BayM.disk) * (ownAt TPtr 1 vi k (us.map ptrV) * disksAt TD TS us (S.images.take k))))))))))  from by rw [← HO.out]; ac_rfl)) (by omega)
          obtain ⟨rfl, _, rfl⟩ : io = some ⟨g, 0, none⟩ ∧ True ∧ ic = gcap := by simpa using hv
          have b0 := hcell k (ptrV r0) (by simp [hr0])
          unfold ptrV at b0
          obtain ⟨R, hR⟩ := disksAt_split (TD := TD) (TS := TS) qs S.images k (by rw [HST.out.2.2.2]; exact hlt) hlt
          have hR' := hR r0 D
          rw [set_self hr0, set_self hD] at hR'
          have hO2 : O = diskAt TD TS r0 D * (pts p (.cells (shelfC S.cfg (.slice bo S.bays.length bc) (.slice (some ⟨g, 0, none⟩) S.images.length ic) S.off S.fused S.left) TSh (0, 0)) * (ownAt TBay 2 (.slice bo S.bays.length bc) S.bays.length (baysL ps S.bays) * (ownAt TPtr 1 (.slice (some ⟨g, 0, none⟩) S.images.length ic) S.images.length (qs.map ptrV) * (disksAt TD TS ps (S.bays.map BayM.disk) * (R * F))))) := by
            rw [← HO.out]
            show pts p _ * (_ * (_ * (_ * (disksAt TD TS qs S.images * _)))) = _
            rw [hR']; ac_rfl
          have HO2 := Lib.hid hO2
          have HB := Lib.hid (And.intro hD hr0)
          clear hR hR' hD hr0 hcell hv hO2
          go_upto_region 11 with (fail)
          have hS0 : wr.drew.cell? ⟨q, 7, none⟩ = some vi := cells_at H1.out.2.block 7
          refine reg_begin (fun w' => w'.cell? ⟨q, 7, none⟩ = some vi) (by kernel_rfl) ?_
          (apply reg_take 0 rfl rfl (by decide +kernel) rfl); (rintro w' h1; go_simp; rfl); exact hS0; simp only [List.setIfInBounds_toArray, List.set_cons_succ, List.set_cons_zero]
          (apply reg_take 1 rfl rfl (by decide +kernel) rfl); (rintro w' h1; go_simp; rfl); exact hS0; simp only [List.setIfInBounds_toArray, List.set_cons_succ, List.set_cons_zero]
          (apply reg_take 2 rfl rfl (by decide +kernel) rfl); (rintro w' h1; go_simp; rfl); exact hS0; simp only [List.setIfInBounds_toArray, List.set_cons_succ, List.set_cons_zero]
          have hcl := clone_any r0 D ((pts p (.cells (shelfC S.cfg (.slice bo S.bays.length bc) (.slice (some ⟨g, 0, none⟩) S.images.length ic) S.off S.fused S.left) TSh (0, 0)) * (ownAt TBay 2 (.slice bo S.bays.length bc) S.bays.length (baysL ps S.bays) * (ownAt TPtr 1 (.slice (some ⟨g, 0, none⟩) S.images.length ic) S.images.length (qs.map ptrV) * (disksAt TD TS ps (S.bays.map BayM.disk) * (R * F))))) * (pts q (.cells (shelfC S.cfg vb vi S.off S.fused S.left) TSh (0, 0)) * (ownAt TBay 2 vb S.bays.length (baysL rs S.bays) * (disksAt TD TS rs (S.bays.map BayM.disk) * (ownAt TPtr 1 vi k (us.map ptrV) * disksAt TD TS us (S.images.take k)))))) wr.drew (H1.out.2.drew.perm (show _ = diskAt TD TS r0 D * ((pts p (.cells (shelfC S.cfg (.slice bo S.bays.length bc) (.slice (some ⟨g, 0, none⟩) S.images.length ic) S.off S.fused S.left) TSh (0, 0)) * (ownAt TBay 2 (.slice bo S.bays.length bc) S.bays.length (baysL ps S.bays) * (ownAt TPtr 1 (.slice (some ⟨g, 0, none⟩) S.images.length ic) S.images.length (qs.map ptrV) * (disksAt TD TS ps (S.bays.map BayM.disk) * (R * F))))) * (pts q (.cells (shelfC S.cfg vb vi S.off S.fused S.left) TSh (0, 0)) * (ownAt TBay 2 vb S.bays.length (baysL rs S.bays) * (disksAt TD TS rs (S.bays.map BayM.disk) * (ownAt TPtr 1 vi k (us.map ptrV) * disksAt TD TS us (S.images.take k)))))) from by rw [HO2.out]; ac_rfl))
          refine reg_call 3 rfl rfl (by decide +kernel) rfl (f := 24) (args := #[.pointer (some ⟨r0, 0, none⟩)]) (R := fun v w' => ∃ q1, v = .pointer (some ⟨q1, 0, none⟩) ∧ Hid (Same w w' ∧ Sat w' (pts q (.cells (shelfC S.cfg vb vi S.off S.fused S.left) TSh (0, 0)) * (ownAt TBay 2 vb S.bays.length (baysL rs S.bays) * (disksAt TD TS rs (S.bays.map BayM.disk) * (ownAt TPtr 1 vi k (us.map ptrV) * (disksAt TD TS us (S.images.take k) * (diskAt TD TS q1 D * O)))))))) (by kernel_rfl)
            (hcl.mono fun e w' h => by
              obtain ⟨q', rfl, h1, h2⟩ := h
              refine ⟨_, rfl, q', rfl, (H1.out.1.drew).trans h1, h2.perm (by rw [HO2.out]; ac_rfl)⟩) ?_
          rintro _ w3 ⟨q1, rfl, h3⟩
          have hS3 : w3.cell? ⟨q, 7, none⟩ = some vi := cells_at h3.out.2.block 7
          refine ⟨hS3, ?_⟩
          simp only [List.setIfInBounds_toArray, List.set_cons_succ, List.set_cons_zero]
          have hA4 := h3.out.2.alloc (.cells #[.pointer (some ⟨q1, 0, none⟩)] TPtr)
          have hS4 : (w3.alloc (.cells #[.pointer (some ⟨q1, 0, none⟩)] TPtr)).cell? ⟨q, 7, none⟩ = some vi := cells_at hA4.right.block 7
          refine reg_run 4 (.slice (some ⟨w3.heap.size, 0, none⟩) 1 1) (w3.alloc (.cells #[.pointer (some ⟨q1, 0, none⟩)] TPtr)) rfl rfl (by decide +kernel) rfl (by go_simp) (hS4) ?_; simp only [List.setIfInBounds_toArray, List.set_cons_succ, List.set_cons_zero]
          have hA5 := hA4.perm (show _ = ownAt TPtr 1 vi k (us.map ptrV) * (pts w3.heap.size (.cells #[.pointer (some ⟨q1, 0, none⟩)] TPtr (0, 0)) * (pts q (.cells (shelfC S.cfg vb vi S.off S.fused S.left) TSh (0, 0)) * (ownAt TBay 2 vb S.bays.length (baysL rs S.bays) * (disksAt TD TS rs (S.bays.map BayM.disk) * (disksAt TD TS us (S.images.take k) * (diskAt TD TS q1 D * O)))))) from by ac_rfl)
          obtain ⟨ti, hti, hz0, hts, hz2⟩ := info_parts info_PtrC
          have hlw : (S.images.take k).length = k := by rw [List.length_take]; omega
          obtain ⟨v', w5, hr, hsm5, hs5⟩ := run_append_ownAt (P := Tryz.prog) 57 57 TPtr ti _ Tryz.underlying57 hti hz0 (by rw [hts]; rfl) vi k (us.map ptrV) (by rw [hts]; exact hA5) ⟨w3.heap.size, 0, none⟩ 1 1 [.pointer (some ⟨q1, 0, none⟩)] (by rw [hts]; rfl)
            (by intro j u hu; rw [Addr.add_mid, cells_at hA5.right.block, Nat.zero_add]; simpa using hu) (by simp [Value.oneCell']) (by unfold maxLen; omega) (by rw [hz2]; omega)
          rw [hts] at hs5
          have hs6 := hs5.perm (show _ = pts q (.cells (shelfC S.cfg vb vi S.off S.fused S.left) TSh (0, 0)) * (ownAt TPtr 1 v' (k + 1) (us.map ptrV ++ [.pointer (some ⟨q1, 0, none⟩)]) * (pts w3.heap.size (.cells #[.pointer (some ⟨q1, 0, none⟩)] TPtr (0, 0)) * (ownAt TBay 2 vb S.bays.length (baysL rs S.bays) * (disksAt TD TS rs (S.bays.map BayM.disk) * (disksAt TD TS us (S.images.take k) * (diskAt TD TS q1 D * O)))))) from by ac_rfl)
          have hS6 : w5.cell? ⟨q, 7, none⟩ = some vi := cells_at hs6.block 7
          refine reg_run 5 (v') (w5) rfl rfl (by decide +kernel) rfl (exec_append rfl rfl rfl hr) (hS6) ?_; simp only [List.setIfInBounds_toArray, List.set_cons_succ, List.set_cons_zero]
          (apply reg_take 6 rfl rfl (by decide +kernel) rfl); (rintro w' h1; go_simp; rfl); exact hS6; simp only [List.setIfInBounds_toArray, List.set_cons_succ, List.set_cons_zero]
          obtain ⟨ip, hip, hip2⟩ := Option.map_eq_some_iff.1 (show (Tryz.prog.info? 57).map (·.size) = some 1 by kernel_rfl)
          obtain ⟨ao', cp', rfl⟩ := ownAt_slice hs5
          refine reg_do_last 7 (w5.setCell ⟨q, 7, none⟩ (.slice ao' (k + 1) cp')) rfl rfl (by decide +kernel) rfl (exec_store_cell rfl rfl rfl hip hip2 rfl hS6 (thawed_at hs6.block 7)) ?_
          go_wp2
          refine ⟨⟨⟨k + 1, us ++ [q1], .slice ao' (k + 1) cp', by omega, rfl, by rw [List.length_append, HUS.out]; rfl, ((h3.out.1.alloc _).trans hsm5).setCell _ _, ?_⟩⟩, by simp only [intOf]; omega⟩
          have htk : S.images.take (k + 1) = S.images.take k ++ [D] := by rw [List.take_add_one, HB.out.1]; rfl
          rw [htk, List.map_append, List.map_cons, List.map_nil, disksAt_app _ _ _ _ (by rw [HUS.out, hlw])]
          have h9 := hs6.setCell (i := 7) (.slice ao' (k + 1) cp')
          refine Sat.right (P := pts w3.heap.size (.cells #[.pointer (some ⟨q1, 0, none⟩)] TPtr (0, 0))) (h9.perm ?_)
          unfold shelfC
          simp only [List.setIfInBounds_toArray, List.set_cons_succ, List.set_cons_zero]
          show _ = _ * (_ * (_ * (_ * (ownAt TPtr 1 _ _ (_ ++ [.pointer (some ⟨q1, 0, none⟩)]) * _))))
          ac_rfl
        case neg =>
          have hke : k = S.images.length := by omega
          have hltd : decide ((k : Int) < (S.images.length : Int)) = false := decide_eq_false (by omega)
          subst hke
          rw [List.take_length] at H1
          go_wp2
          go_ret
          refine ⟨q, rfl, H1.out.1, shelfAt_iff.2 ⟨vb, vi, rs, us, ⟨HST.out.2.1, HRS.out, HUS.out⟩, ?_⟩⟩
          have h9 : Sat wr (shelfAt SH p S * ((pts q (.cells (shelfC S.cfg vb vi S.off S.fused S.left) TSh (0, 0)) * (ownAt TBay 2 vb S.bays.length (baysL rs S.bays) * (disksAt TD TS rs (S.bays.map BayM.disk) * (ownAt TPtr 1 vi S.images.length (us.map ptrV) * disksAt TD TS us S.images)))) * F)) :=
            shelfAt_iff.2 ⟨_, _, ps, qs, ⟨HST.out.2.1, HST.out.2.2.1, HST.out.2.2.2⟩, H1.out.2.perm (by rw [← HO.out]; show _ = pts p (.cells _ TSh (0, 0)) * (ownAt TBay 2 _ _ _ * (ownAt TPtr 1 _ _ _ * (disksAt TD TS _ _ * (disksAt TD TS _ _ * _)))); ac_rfl)⟩
          exact h9.perm (by show _ = pts q (.cells _ TSh (0, 0)) * (ownAt TBay 2 _ _ _ * (ownAt TPtr 1 _ _ _ * (disksAt TD TS _ _ * (disksAt TD TS _ _ * _)))); ac_rfl)
end Go.Proofs.YtogmkbhbmmgidaaGreat
end
section
namespace Go.Proofs.YtogmkbhbmmgidaaGreat
open Go.RowKit Go.Sl Go.ChangeMaps Go.ChangeShapes Go.WideShapes Go.ChangeAt
abbrev TPlay : TypeId := 26
abbrev plyA (c : CfgM) (v : Value) (cp : Int) : Array Value := #[.int .i64 c.disks, .int .i64 c.racks, .int .i64 c.rows, .int .i64 c.spare, .int .i64 c.log, .int .i64 c.image, v, .int .i64 cp]
theorem ply_cells {w : World} {B : Nat} {c : CfgM} {v : Value} {cp : Int} {X : HProp} (h : Sat w (pts B (.cells (plyA c v cp) TPlay (0, 0)) * X)) :
    (w.cell? ⟨B, 0, none⟩ = some (.int .i64 c.disks) ∧ w.cell? ⟨B, 1, none⟩ = some (.int .i64 c.racks) ∧ w.cell? ⟨B, 2, none⟩ = some (.int .i64 c.rows) ∧ w.cell? ⟨B, 3, none⟩ = some (.int .i64 c.spare) ∧ w.cell? ⟨B, 4, none⟩ = some (.int .i64 c.log) ∧ w.cell? ⟨B, 5, none⟩ = some (.int .i64 c.image)) ∧
    w.cell? ⟨B, 6, none⟩ = some v ∧ B < w.heap.size := by
  have hb := cells_at h.block
  exact ⟨⟨hb 0, hb 1, hb 2, hb 3, hb 4, hb 5⟩, hb 6, h.lt⟩
set_option maxRecDepth 20000 in
theorem rd_play {w : World} {cs : List Value} (h : Rd Tryz.prog w TPlay cs) : ∃ c v l cp, cs = (plyA c v cp).toList ∧ ScrN w v l ∧ (Lit.int .i64 cp).wf = true := by
  obtain ⟨hl, hf⟩ := Rd.struct Tryz.underlying26 h
  rw [show Tryz.prog.cellsOf TPlay = 8 by kernel_rfl] at hl
  have k1 : Tryz.prog.cellsOf 3 = 1 := by kernel_rfl
  have k3 : Tryz.prog.cellsOf TCfg = 6 := by kernel_rfl
  have k4 : Tryz.prog.cellsOf 24 = 1 := by kernel_rfl
  match cs, hl with
  | [a0, a1, a2, a3, a4, a5, a6, a7], _ =>
    simp only [List.mem_cons, List.not_mem_nil, or_false, forall_eq_or_imp, forall_eq, k1, k3, k4, List.drop_zero, List.drop_succ_cons, List.take_succ_cons, List.take_zero] at hf
    obtain ⟨h0, h1, h2⟩ := hf
    obtain ⟨c, e0⟩ := rd_cfg h0
    obtain ⟨v, l, e1, hs⟩ := rd_script h1
    obtain ⟨n4, e4, w4⟩ := Rd.int Tryz.underlying3 h2
    refine ⟨c, v, l, n4, ?_, hs, w4⟩
    simp [cfgL] at e0 e1 e4
    obtain ⟨rfl, rfl, rfl, rfl, rfl, rfl⟩ := e0
    subst e1 e4
    rfl
theorem step_cfg (S : ShelfM) (d : Int) (f : DiskM → DiskM) : (S.step d f).1.cfg = S.cfg := by
  unfold ShelfM.step
  split; rfl
  split; rfl
  split
  · split <;> rfl
  · rfl
theorem flush_cfg (S : ShelfM) (d : Int) : (S.flush d).1.cfg = S.cfg := by
  unfold ShelfM.flush; split
  · rfl
  · exact step_cfg S d _
theorem flushFrom_cfg : ∀ (m : Nat) (S : ShelfM) (k : Nat), (S.flushFrom k m).1.cfg = S.cfg
  | 0, _, _ => rfl
  | m + 1, S, k => by
    show (if S.state k ≠ 1 then S.flushFrom (k + 1) m else if (S.flush k).2 ≠ 0 then S.flush k else (S.flush k).1.flushFrom (k + 1) m).1.cfg = _
    split
    · exact flushFrom_cfg m S (k + 1)
    · split
      · exact flush_cfg S k
      · rw [flushFrom_cfg m, flush_cfg]
theorem arm_cfg (S : ShelfM) (a : PlaceM) (v : Bool) (f : DiskM → Int → DiskM × Int) : (S.arm a v f).1.cfg = S.cfg := by
  unfold ShelfM.arm
  split; rfl
  split <;> rfl
theorem doN_cfg (S : ShelfM) (o : OpN) : (doN S o).1.cfg = S.cfg := by
  unfold doN
  by_cases q1 : o.kind = 1
  · rw [if_pos q1]; show (S.write _ _).1.cfg = _; unfold ShelfM.write; split; rfl; exact step_cfg _ _ _
  rw [if_neg q1]
  by_cases q2 : o.kind = 2
  · rw [if_pos q2]
  rw [if_neg q2]
  by_cases q3 : o.kind = 3
  · rw [if_pos q3]; exact flush_cfg _ _
  rw [if_neg q3]
  by_cases q4 : o.kind = 4
  · rw [if_pos q4]; show S.flushAll.1.cfg = _; unfold ShelfM.flushAll; split; rfl; exact flushFrom_cfg _ _ _
  rw [if_neg q4]
  by_cases q5 : o.kind = 5
  · rw [if_pos q5]; rfl
  rw [if_neg q5]
  by_cases q6 : o.kind = 6
  · rw [if_pos q6]; rfl
  rw [if_neg q6]
  by_cases q7 : o.kind = 7
  · rw [if_pos q7]; show (S.kill _).1.cfg = _; unfold ShelfM.kill; split <;> rfl
  rw [if_neg q7]
  by_cases q8 : o.kind = 8
  · rw [if_pos q8]; show (S.remove _).1.cfg = _; unfold ShelfM.remove; split <;> rfl
  rw [if_neg q8]
  by_cases q9 : o.kind = 9
  · rw [if_pos q9]; show (S.insert _ _).1.cfg = _; unfold ShelfM.insert; split; rfl; split; rfl; split <;> rfl
  rw [if_neg q9]
  by_cases q10 : o.kind = 10
  · rw [if_pos q10]; show (S.replace _).1.cfg = _; unfold ShelfM.replace; split <;> rfl
  rw [if_neg q10]
  by_cases q11 : o.kind = 11
  · rw [if_pos q11]; exact arm_cfg _ _ _ _
  rw [if_neg q11]
  by_cases q12 : o.kind = 12
  · rw [if_pos q12]; exact arm_cfg _ _ _ _
  rw [if_neg q12]
  by_cases q13 : o.kind = 13
  · rw [if_pos q13]; exact arm_cfg _ _ _ _
  rw [if_neg q13]
end Go.Proofs.YtogmkbhbmmgidaaGreat
end
