import Derived.Test.YtogmkbhbmmgidaaGreatP21
import Derived.Test.YtogmkbhbmmgidaaGreatP13
import Derived.Test.YtogmkbhbmmgidaaGreatP20
/- Part 36 of a proof; the last part says what is proved. -/
section
namespace Go.Proofs.YtogmkbhbmmgidaaGreat
open Go.RowKit Go.Sl Go.ChangeMaps
theorem peek_ok {S : ShelfM} (h : S.WF) {a : PlaceM} (h0 : 0 ≤ S.number a) (h1 : S.state a.disk = 1) : S.peek a = (((S.disk a.disk).read (S.number a)).1, true) := by
  have hl := (ShelfM.number_lt h h0).2.2.2.2.2.2
  have hn := ShelfM.disk_n h h1
  unfold ShelfM.peek
  rw [if_neg (by omega), if_pos h1]
  have hr : ((S.disk a.disk).read (S.number a)).2 = 0 := by
    unfold DiskM.read
    have hh : (S.disk a.disk).has (S.number a) = true := by unfold DiskM.has; rw [decide_eq_true h0, decide_eq_true (by omega)]; rfl
    rw [if_pos hh]
  rw [hr]; rfl
set_option maxRecDepth 40000 in
set_option maxHeartbeats 4000000 in
theorem rpeek_any (p : Nat) (S : ShelfM) (F : HProp) (a : PlaceM) (w : World) (hS : Sat w (rshAt RS p S * F)) :
    Calls Tryz.prog 56 #[.pointer (some ⟨p, 0, none⟩), .agg (plA a)] w fun e w' => e = .returned (.tuple #[.string (strB (S.peek a).1), .bool (S.peek a).2]) ∧ Hid (Below w.heap.size w w') := by
  have hwf := rshAt_wf hS
  have HWF := Lib.hid hwf
  have hA := hS.alloc (.cells (plA a) TPl)
  have HA := Lib.hid (show Below w.heap.size w (w.alloc (.cells (plA a) TPl)) ∧ Sat (w.alloc (.cells (plA a) TPl)) (rshAt RS p S * (pts w.heap.size (.cells (plA a) TPl (0, 0)) * F)) from ⟨(Below.refl _ _).alloc (Nat.le_refl _) _, hA.perm (by ac_rfl)⟩)
  obtain ⟨pk, hpk⟩ : ∃ pk, Hid (S.peek a = pk) := ⟨_, Lib.hid rfl⟩
  obtain ⟨nu, hnu⟩ : ∃ nu, Hid (S.number a = nu) := ⟨_, Lib.hid rfl⟩
  obtain ⟨nm, hnm⟩ : ∃ nm, Hid (numM S a = nm) := ⟨_, Lib.hid rfl⟩
  obtain ⟨nb, hnb⟩ : ∃ nb, Hid (decide (0 ≤ nu) = nb) := ⟨_, Lib.hid rfl⟩
  rw [hpk.out]
  clear hS hA hwf
  go_enter Tryz.func56, Tryz.ntmps56
  go_upto_region 1 with (fail)
  unfold plA at HA
  generalize hw1 : w.alloc _ = W1 at HA ⊢
  clear hw1
  generalize hBB : w.heap.size = B at HA ⊢
  have HBB := Lib.hid (show B ≤ W1.heap.size from by rw [← hBB]; exact HA.out.1.size)
  have HBQ := Lib.hid hBB
  clear hBB
  have hbx := (HA.out.2.perm (show _ = pts B (.cells #[.int .i64 a.disk, .int .i64 a.area, .int .i64 a.index] TPl (0, 0)) * (rshAt RS p S * F) from by ac_rfl))
  have b0 : W1.cell? ⟨B, 0, none⟩ = some (.int .i64 a.disk) := cells_at hbx.block 0
  have b1 : W1.cell? ⟨B, 1, none⟩ = some (.int .i64 a.area) := cells_at hbx.block 1
  have b2 : W1.cell? ⟨B, 2, none⟩ = some (.int .i64 a.index) := cells_at hbx.block 2
  clear hbx
  go_upto_region 2 with (go_at_call 81; refine (rnumber_any p S _ a W1 HA.out.2).mono ?_; rintro e w2 ⟨rfl, hb⟩; rw [hnu.out, hnm.out, hnb.out]; replace HA := Lib.hid (And.intro (HA.out.1.trans (hb.mono HBB.out)) (HA.out.2.below hb)); clear hb b0 b1 b2)
  have hbx := (HA.out.2.perm (show _ = pts B (.cells #[.int .i64 a.disk, .int .i64 a.area, .int .i64 a.index] TPl (0, 0)) * (rshAt RS p S * F) from by ac_rfl))
  have b0 : w2.cell? ⟨B, 0, none⟩ = some (.int .i64 a.disk) := cells_at hbx.block 0
  clear hbx
  by_cases k0 : 0 ≤ nu
  case neg =>
    obtain rfl : nb = false := by rw [← hnb.out]; exact decide_eq_false k0
    obtain rfl : pk = ([], false) := by rw [← hpk.out]; unfold ShelfM.peek; rw [hnu.out, if_pos (by omega)]
    clear k0
    go_quiet (fail)
    go_wp2
    go_ret2
    exact ⟨rfl, by rw [HBQ.out]; exact below_drewN HA.out.1 _⟩
  obtain rfl : nb = true := by rw [← hnb.out]; exact decide_eq_true k0
  have hlt := ShelfM.number_lt HWF.out (a := a) (by rw [hnu.out]; exact k0)
  obtain ⟨hd0, hd1⟩ := ShelfM.state_in HWF.out hlt.1
  obtain ⟨k, hk⟩ := Int.eq_ofNat_of_zero_le hd0
  rw [hk] at b0
  obtain ⟨g, capb, gs, caps, q, R, ⟨c6, c7⟩, ⟨cq, cs⟩, hq⟩ := rsh_bay HA.out.2 (k := k) (by omega)
  have HQ := Lib.hid hq
  have hki : (k : Int) < (S.bays.length : Int) := by omega
  have hk0 : (0 : Int) ≤ (k : Int) := by omega
  obtain ⟨len, hlen⟩ : ∃ len, S.bays.length = len := ⟨_, rfl⟩
  rw [hlen] at c6 c7 hki
  obtain ⟨st, hst⟩ : ∃ st, Hid (S.state k = st) := ⟨_, Lib.hid rfl⟩
  rw [hst.out] at cs
  have HK := Lib.hid hk
  clear hlt hd0 hd1 hk hq hlen
  by_cases k1 : st = 1
  case neg =>
    obtain rfl : pk = ([], false) := by rw [← hpk.out]; unfold ShelfM.peek; rw [hnu.out, if_neg (by omega), HK.out, if_neg (by rw [hst.out]; exact k1)]
    have k1' : (st != 1) = true := by simp [k1]
    clear k0 k1
    go_quiet (fail)
    go_wp2
    go_ret2
    exact ⟨rfl, by rw [HBQ.out]; exact below_drewN HA.out.1 _⟩
  subst k1
  have hpe := peek_ok HWF.out (a := a) (by rw [hnu.out]; exact k0) (by rw [HK.out]; exact hst.out)
  rw [hpk.out, hnu.out, HK.out] at hpe
  subst hpe
  have hnn : nm = nu := by rw [← hnm.out]; unfold numM; rw [hnu.out, if_neg (by omega)]
  subst hnn
  have HRD := Lib.hid (fun n => rread_any q (S.disk k) R nm (w2.drewN n) (HQ.out.drewN n))
  clear k0
  go_quiet (fail)
  go_upto_region 4 with (fail)
  go_quiet ((go_at_call 85; exact (HRD.out _).mono fun e w' h => ⟨h.1, _, h.2.symm⟩))
  go_wp2
  go_ret2
  exact ⟨rfl, by rw [HBQ.out]; exact below_drewN HA.out.1 _⟩
end Go.Proofs.YtogmkbhbmmgidaaGreat
end
section
namespace Go.Proofs.YtogmkbhbmmgidaaGreat
open Go.RowKit Go.Sl Go.ChangeMaps
theorem cf_peek (args : Array Value) (w : World) : (callFunc 92 args).run Tryz.prog w = .ok (.enter 92 args) w := by kernel_rfl
set_option maxHeartbeats 400000 in
theorem peek1_any (q tB : Nat) (n : Int) (s : ByteArray) (D : DiskM) (F G : HProp) (w : World) (hS : Sat w (diskAt TD TS q D * ((pts tB (.cells #[.string s] TString (0, 0)) * F) * G))) :
    Calls Tryz.prog 92 (#[.agg #[ptrV q, .int .i64 1], .int .i64 n] ++ #[ptrV tB]) w fun e w' => e = .returned (.int .i64 (D.read n).2) ∧ Hid (Same w w' ∧ Sat w' (diskAt TD TS q D * ((pts tB (.cells #[.string (strB (D.read n).1)] TString (0, 0)) * F) * G))) := by
  have HS := Lib.hid hS
  have hp := hS.perm (show _ = pts tB (.cells #[.string s] TString (0, 0)) * (diskAt TD TS q D * (F * G)) from by ac_rfl)
  have c0 : w.cell? ⟨tB, 0, none⟩ = some (.string s) := cells_at hp.block 0
  have f0 : w.frozen? ⟨tB, 0, none⟩ = false := thawed_at hp.block 0
  have l0 := hp.lt
  have hrd := read_any q D ((pts tB (.cells #[.string s] TString (0, 0)) * F) * G) n (w.alloc (.cells #[ptrV q, .int .i64 1] TBay)) (hS.allocKeep _)
  obtain ⟨⟨t, k⟩, hr⟩ : ∃ r, D.read n = r := ⟨_, rfl⟩
  rw [hr] at hrd ⊢
  simp only at hrd ⊢
  clear hS hp hr
  show Calls Tryz.prog 92 #[.agg #[ptrV q, .int .i64 1], .int .i64 n, ptrV tB] w _
  unfold ptrV at hrd ⊢
  go_enter Tryz.func92, Tryz.ntmps92
  go_upto_region 3 with (go_at_call 70; refine hrd.mono ?_; rintro e w1 ⟨rfl, hb⟩; have c1 : w1.cell? ⟨tB, 0, none⟩ = some (.string s) := (hb.cell (p := ⟨tB, 0, none⟩) (by simp; omega)).trans ((World.cell?_alloc_lt _ _ _ l0).trans c0); have f1 : w1.frozen? ⟨tB, 0, none⟩ = false := thawed_at ((HS.out.allocKeep _).below hb |>.perm (show _ = pts tB (.cells #[.string s] TString (0, 0)) * (diskAt TD TS q D * (F * G)) from by ac_rfl)).block 0; have HB := Lib.hid hb; clear hb c0 f0)
  go_wp2
  go_ret
  refine ⟨rfl, (((Same.refl w).alloc _).below HB.out).setCell _ _, ?_⟩
  exact ((((HS.out.allocKeep _).below HB.out).perm (show _ = pts tB (.cells #[.string s] TString (0, 0)) * (diskAt TD TS q D * (F * G)) from by ac_rfl)).setCell (i := 0) _).perm (by show pts tB (.cells #[.string (strB t)] TString (0, 0)) * _ = _; ac_rfl)
def PeekOut (p : Nat) (S : ShelfM) (F : HProp) (r : List UInt8 × Bool) (w : World) (e : Ending) (w' : World) : Prop := e = .returned (.tuple #[.string (strB r.1), .bool r.2]) ∧ Same w w' ∧ Sat w' (shelfAt SH p S * F)
set_option maxHeartbeats 1000000 in
theorem peek_any (p : Nat) (S : ShelfM) (F : HProp) (a : PlaceM) (w : World) (hS : Sat w (shelfAt SH p S * F)) :
    Calls Tryz.prog 55 #[.pointer (some ⟨p, 0, none⟩), .agg (plA a)] w (PeekOut p S F (S.peek a) w) := by
  have hwf := shelfAt_wf hS
  have hA := ((hS.alloc (.cells (plA a) TPl)).alloc (.cells #[.string ⟨#[]⟩] TString))
  rw [World.size_alloc] at hA
  have hpk : S.peek a = if S.number a < 0 then ([], false) else if S.state a.disk = 1 then (((S.disk a.disk).read (S.number a)).1, decide (((S.disk a.disk).read (S.number a)).2 = 0)) else ([], false) := rfl
  by_cases h0 : S.number a < 0
  · rw [if_pos h0] at hpk
    rw [hpk]
    have hc := arm_bad p S (pts (w.heap.size + 1) (.cells #[.string ⟨#[]⟩] TString (0, 0)) * (pts w.heap.size (.cells (plA a) TPl (0, 0)) * F)) a true 92 #[ptrV (w.heap.size + 1)] _ (hA.perm (by ac_rfl)) (.inl h0)
    unfold ptrV at hc
    clear hpk h0 hA hS hwf
    go_enter Tryz.func55, Tryz.ntmps55
    go_upto_region 3 with (go_at_call 74; refine hc.mono ?_; rintro e w2 ⟨rfl, h2⟩; clear hc)
    have hs2 := h2.out.2.perm (show _ = pts (w.heap.size + 1) (.cells #[.string ⟨#[]⟩] TString (0, 0)) * (pts w.heap.size (.cells (plA a) TPl (0, 0)) * (shelfAt SH p S * F)) from by ac_rfl)
    have c0 : w2.cell? ⟨w.heap.size + 1, 0, none⟩ = some (.string ⟨#[]⟩) := cells_at hs2.block 0
    have HF := Lib.hid hs2.right.right
    clear hs2
    go_wp2
    go_ret2
    exact ⟨rfl, (((Same.refl w).alloc _).alloc _).trans h2.out.1, HF.out⟩
  · rw [if_neg h0] at hpk
    have hn0 : 0 ≤ S.number a := by omega
    have hin := ShelfM.state_in hwf (ShelfM.number_lt hwf hn0).1
    have hc := arm_do p S (pts (w.heap.size + 1) (.cells #[.string ⟨#[]⟩] TString (0, 0)) * (pts w.heap.size (.cells (plA a) TPl (0, 0)) * F)) (pts (w.heap.size + 1) (.cells #[.string (strB ((S.disk a.disk).read (S.number a)).1)] TString (0, 0)) * (pts w.heap.size (.cells (plA a) TPl (0, 0)) * F)) a 92 #[ptrV (w.heap.size + 1)] (S.disk a.disk) ((S.disk a.disk).read (S.number a)).2 cf_peek hn0 (fun _ => rfl)
      (fun _ w' q G h => peek1_any q _ _ _ _ _ G w' h) _ (hA.perm (by ac_rfl))
    unfold ptrV armR ArmOut at hc
    rw [ShelfM.setDisk_self hin.1 hin.2] at hc
    by_cases h1 : S.state a.disk = 1
    · rw [if_pos h1] at hpk
      rw [hpk]
      simp only [if_pos h1] at hc
      obtain ⟨⟨t, k⟩, hr⟩ : ∃ r, (S.disk a.disk).read (S.number a) = r := ⟨_, rfl⟩
      rw [hr] at hc ⊢
      simp only at hc ⊢
      clear hpk h0 hA hS hwf h1 hr hn0 hin
      by_cases hk : k = 0
      · rw [decide_eq_true hk]
        have hkb : (k == 0) = true := by simp [hk]
        clear hk
        go_enter Tryz.func55, Tryz.ntmps55
        go_upto_region 3 with (go_at_call 74; refine hc.mono ?_; rintro e w2 ⟨rfl, h2⟩; clear hc)
        have hs2 := h2.out.2.perm (show _ = pts (w.heap.size + 1) (.cells #[.string (strB t)] TString (0, 0)) * (pts w.heap.size (.cells (plA a) TPl (0, 0)) * (shelfAt SH p S * F)) from by ac_rfl)
        have c0 : w2.cell? ⟨w.heap.size + 1, 0, none⟩ = some (.string (strB t)) := cells_at hs2.block 0
        have HF := Lib.hid hs2.right.right
        clear hs2
        go_wp2
        go_ret2
        exact ⟨rfl, (((Same.refl w).alloc _).alloc _).trans h2.out.1, HF.out⟩
      · rw [decide_eq_false hk]
        have hkb : (k == 0) = false := by simp [hk]
        clear hk
        go_enter Tryz.func55, Tryz.ntmps55
        go_upto_region 3 with (go_at_call 74; refine hc.mono ?_; rintro e w2 ⟨rfl, h2⟩; clear hc)
        have hs2 := h2.out.2.perm (show _ = pts (w.heap.size + 1) (.cells #[.string (strB t)] TString (0, 0)) * (pts w.heap.size (.cells (plA a) TPl (0, 0)) * (shelfAt SH p S * F)) from by ac_rfl)
        have c0 : w2.cell? ⟨w.heap.size + 1, 0, none⟩ = some (.string (strB t)) := cells_at hs2.block 0
        have HF := Lib.hid hs2.right.right
        clear hs2
        go_wp2
        go_ret2
        exact ⟨rfl, (((Same.refl w).alloc _).alloc _).trans h2.out.1, HF.out⟩
    · rw [if_neg h1] at hpk
      rw [hpk]
      simp only [if_neg h1] at hc
      clear hpk h0 hA hS hwf h1 hn0 hin
      go_enter Tryz.func55, Tryz.ntmps55
      go_upto_region 3 with (go_at_call 74; refine hc.mono ?_; rintro e w2 ⟨rfl, h2⟩; clear hc)
      have hs2 := h2.out.2.perm (show _ = pts (w.heap.size + 1) (.cells #[.string ⟨#[]⟩] TString (0, 0)) * (pts w.heap.size (.cells (plA a) TPl (0, 0)) * (shelfAt SH p S * F)) from by ac_rfl)
      have c0 : w2.cell? ⟨w.heap.size + 1, 0, none⟩ = some (.string ⟨#[]⟩) := cells_at hs2.block 0
      have HF := Lib.hid hs2.right.right
      clear hs2
      go_wp2
      go_ret2
      exact ⟨rfl, (((Same.refl w).alloc _).alloc _).trans h2.out.1, HF.out⟩
end Go.Proofs.YtogmkbhbmmgidaaGreat
end
section
namespace Go.Proofs.YtogmkbhbmmgidaaGreat
open Go.RowKit Go.Sl Go.ChangeMaps
set_option maxRecDepth 20000 in
theorem neq_cfg (c : CfgM) (w : World) : (binOp .neq TCfg (.agg (cfgA c)) (.agg (cfgA c))).run Tryz.prog w = .ok (.bool false) w := by
  have h1 : (c.disks == c.disks) = true := beq_self_eq_true _
  have h2 : (c.racks == c.racks) = true := beq_self_eq_true _
  have h3 : (c.rows == c.rows) = true := beq_self_eq_true _
  have h4 : (c.spare == c.spare) = true := beq_self_eq_true _
  have h5 : (c.log == c.log) = true := beq_self_eq_true _
  have h6 : (c.image == c.image) = true := beq_self_eq_true _
  go_simp
theorem pls_cells {T : TypeId} {w : World} {ao : Option Addr} {n cap : Nat} {L : List PlaceM} {F : HProp} (hn : L.length = n) (h : Sat w (ownAt T 3 (.slice ao n cap) n (plsC L) * F)) {i : Nat} {a : PlaceM} (hx : L[i]? = some a) : ∃ g : Nat, ao = some ⟨g, 0, none⟩ ∧
    w.cell? ⟨g, i * 3, none⟩ = some (.int .i64 a.disk) ∧ w.cell? ⟨g, i * 3 + 1, none⟩ = some (.int .i64 a.area) ∧ w.cell? ⟨g, i * 3 + 2, none⟩ = some (.int .i64 a.index) := by
  obtain ⟨g, cap', e, hc⟩ := ownAt_cells h (by have := (List.getElem?_eq_some_iff.1 hx).1; omega)
  simp only [Value.slice.injEq] at e
  have k := flat_at4 (fun a : PlaceM => (plA a).toList) 3 (fun _ => rfl) L i a hx
  refine ⟨g, e.1, ?_, hc _ _ (k 1 _ rfl), hc _ _ (k 2 _ rfl)⟩
  have := hc _ _ (k 0 _ rfl)
  rwa [Nat.add_zero] at this
theorem meas_al {n : Int} {k : Nat} (h : (k : Int) - 1 ≤ n) : (n + 1 - (k : Int)).toNat < (n + 1 - ((k : Int) - 1)).toNat := by omega
structure AlkA (W : World) (n : Int) (i : Value) (wr : World) : Prop where
  st : wr = W ∧ ∃ k : Nat, (k : Int) ≤ n + 2 ∧ i = .int .i64 ((k : Int) - 1)
structure AlkB (w : World) (p q : Nat) (S : ShelfM) (F : HProp) (B : Nat) (v : Value) (n : Nat) (L : List PlaceM) (i : Value) (wr : World) : Prop where
  st : ∃ k : Nat, k ≤ n ∧ i = .int .i64 (k : Int) ∧ Hid (Same w wr ∧ Sat wr (shelfAt SH p S * (rshAt RS q S * (ownAt TPl 3 v n (plsC L) * (pts B (.cells (cfgA S.cfg) TCfg (0, 0)) * F)))))
set_option maxRecDepth 40000 in
set_option maxHeartbeats 4000000 in
theorem alike_any (p q : Nat) (S : ShelfM) (F : HProp) (w : World) (hS : Sat w (shelfAt SH p S * (rshAt RS q S * F))) (hd : S.cfg.disks ≤ 6) (hs : ∀ j, j < 4 → szN S.cfg j ≤ 24) :
    Calls Tryz.prog 12 #[.pointer (some ⟨p, 0, none⟩), .pointer (some ⟨q, 0, none⟩)] w fun e w' => e = .returned (.bool true) ∧ Hid (Same w w' ∧ Sat w' (shelfAt SH p S * (rshAt RS q S * F))) := by
  have hwf := shelfAt_wf hS
  have HWF := Lib.hid hwf
  have HD := Lib.hid (And.intro hd hs)
  have HS := Lib.hid hS
  have hr := hS.perm (show _ = rshAt RS q S * (shelfAt SH p S * F) from by ac_rfl)
  have hcf := Lib.hid (rconfig_any q S _ w hr)
  clear hS hr hwf hd hs
  go_enter Tryz.func12, Tryz.ntmps12
  go_upto_region 2 with (go_at_call 50; refine hcf.out.mono ?_; rintro e w1 ⟨rfl, hb⟩; replace HS := Lib.hid (And.intro ((Same.refl w).below hb) (HS.out.below hb)); clear hb)
  have hA := HS.out.2.alloc (.cells (cfgA S.cfg) TCfg)
  have hA1 := hA.perm (show _ = shelfAt SH p S * (rshAt RS q S * (pts w1.heap.size (.cells (cfgA S.cfg) TCfg (0, 0)) * F)) from by ac_rfl)
  have H1 := Lib.hid (show Same w (w1.alloc (.cells (cfgA S.cfg) TCfg)).drew ∧ Sat (w1.alloc (.cells (cfgA S.cfg) TCfg)).drew (shelfAt SH p S * (rshAt RS q S * (pts w1.heap.size (.cells (cfgA S.cfg) TCfg (0, 0)) * F))) from ⟨(HS.out.1.alloc _).drew, hA1.drew⟩)
  clear hA hA1 HS hcf
  generalize hB : w1.heap.size = B at H1 ⊢
  clear hB
  refine reg_begin (fun w' => w'.rangeAt B 0 (cfgL S.cfg)) (by kernel_rfl) ?_
  generalize (w1.alloc _).drew = W1 at H1 ⊢
  have hS1 : W1.rangeAt B 0 (cfgL S.cfg) := (cfg_cells (H1.out.2.perm (show _ = pts B (.cells (cfgA S.cfg) TCfg (0, 0)) * (shelfAt SH p S * (rshAt RS q S * F)) from by ac_rfl))).2.2.2
  have hn := fun w => neq_cfg S.cfg w
  have hup : ((!S.off) != (!S.off)) = false := by simp
  (apply reg_take 0 rfl rfl (by decide +kernel) rfl); (intro w' h1; go_simp; rfl); exact hS1; simp only [List.setIfInBounds_toArray, List.set_cons_succ, List.set_cons_zero]
  refine reg_take 2 (v := .agg (cfgA S.cfg)) rfl rfl (by decide +kernel) rfl (fun w' h => exec_load rfl rfl (load_cfg h)) hS1 ?_; simp only [List.setIfInBounds_toArray, List.set_cons_succ, List.set_cons_zero]
  refine reg_call 1 rfl rfl (by decide +kernel) rfl (f := 51) (args := #[.pointer (some ⟨p, 0, none⟩)]) (R := fun v w' => v = .agg (cfgA S.cfg) ∧ Hid (Same w w' ∧ Sat w' (shelfAt SH p S * (rshAt RS q S * (pts B (.cells (cfgA S.cfg) TCfg (0, 0)) * F))))) (by kernel_rfl)
    ((config_any p S _ W1 H1.out.2).mono fun e w' h => ⟨_, h.1, rfl, H1.out.1.below h.2, H1.out.2.below h.2⟩) ?_
  rintro _ W2 ⟨rfl, H2⟩
  have hS2 : W2.rangeAt B 0 (cfgL S.cfg) := (cfg_cells (H2.out.2.perm (show _ = pts B (.cells (cfgA S.cfg) TCfg (0, 0)) * (shelfAt SH p S * (rshAt RS q S * F)) from by ac_rfl))).2.2.2
  refine ⟨hS2, ?_⟩
  simp only [List.setIfInBounds_toArray, List.set_cons_succ, List.set_cons_zero]
  clear hS1 H1
  (apply reg_take 3 rfl rfl (by decide +kernel) rfl); (intro w' h1; go_simp; rfl); exact hS2; simp only [List.setIfInBounds_toArray, List.set_cons_succ, List.set_cons_zero]
  (apply reg_take 4 rfl rfl (by decide +kernel) rfl); (intro w' h1; go_simp; rfl); exact hS2; simp only [List.setIfInBounds_toArray, List.set_cons_succ, List.set_cons_zero]
  (apply reg_take 5 rfl rfl (by decide +kernel) rfl); (intro w' h1; go_simp; rfl); exact hS2; simp only [List.setIfInBounds_toArray, List.set_cons_succ, List.set_cons_zero]
  (apply reg_take 7 rfl rfl (by decide +kernel) rfl); (intro w' h1; go_simp; rfl); exact hS2; simp only [List.setIfInBounds_toArray, List.set_cons_succ, List.set_cons_zero]
  refine reg_call 6 rfl rfl (by decide +kernel) rfl (f := 13) (args := #[.pointer (some ⟨p, 0, none⟩)]) (R := fun v w' => v = .bool (!S.off) ∧ W2 = w') (by kernel_rfl)
    ((up_any p S _ W2 H2.out.2).mono fun e w' h => ⟨_, h.1, rfl, h.2⟩) ?_
  rintro _ _ ⟨rfl, rfl⟩
  refine ⟨hS2, ?_⟩
  simp only [List.setIfInBounds_toArray, List.set_cons_succ, List.set_cons_zero]
  refine reg_call 8 rfl rfl (by decide +kernel) rfl (f := 52) (args := #[.pointer (some ⟨q, 0, none⟩)]) (R := fun v w' => v = .bool (!S.off) ∧ W2 = w') (by kernel_rfl)
    ((rup_any q S _ W2 (H2.out.2.perm (show _ = rshAt RS q S * (shelfAt SH p S * (pts B (.cells (cfgA S.cfg) TCfg (0, 0)) * F)) from by ac_rfl))).mono fun e w' h => ⟨_, h.1, rfl, h.2⟩) ?_
  rintro _ _ ⟨rfl, rfl⟩
  refine ⟨hS2, ?_⟩
  simp only [List.setIfInBounds_toArray, List.set_cons_succ, List.set_cons_zero]
  generalize (!S.off) = up at hup ⊢
  (apply reg_take 9 rfl rfl (by decide +kernel) rfl); (intro w' h1; go_simp; rfl); exact hS2; simp only [List.setIfInBounds_toArray, List.set_cons_succ, List.set_cons_zero]
  refine reg_run_last 10 (.bool false) (W2) rfl rfl (by decide +kernel) rfl (by go_simp) ?_; simp only [List.setIfInBounds_toArray, List.set_cons_succ, List.set_cons_zero]
  clear hS2 hup hn
  obtain ⟨⟨c0, c1, c2⟩, ⟨c3, c4, c5⟩, _, _⟩ := cfg_cells (H2.out.2.perm (show _ = pts B (.cells (cfgA S.cfg) TCfg (0, 0)) * (shelfAt SH p S * (rshAt RS q S * F)) from by ac_rfl))
  have HC := Lib.hid (show 1 ≤ S.cfg.disks ∧ S.cfg.disks ≤ 6 from ⟨HWF.out.cfg.disks.1, HD.out.1⟩)
  obtain ⟨n, hn⟩ : ∃ n, Hid (S.cfg.disks = n) := ⟨_, Lib.hid rfl⟩
  rw [hn.out] at c0
  go_upto_region 5 with (fail)
  have HA := Lib.hid (fun d => state_any p S _ d W2 H2.out.2)
  have HB := Lib.hid (fun d => rstate_any q S _ d W2 (H2.out.2.perm (show _ = rshAt RS q S * (shelfAt SH p S * (pts B (.cells (cfgA S.cfg) TCfg (0, 0)) * F)) from by ac_rfl)))
  go_loopw [6] (fun i wr => AlkA W2 n i wr) (fun i _ => (n + 1 - intOf i).toNat)
  case atStart => exact ⟨rfl, 0, by have := HC.out; have := hn.out; omega, rfl⟩
  case round =>
    obtain ⟨rfl, k, hk, rfl⟩ := hrel.st
    clear hrel
    by_cases hlt : (k : Int) - 1 ≤ n
    · have hltd : decide ((k : Int) - 1 ≤ n) = true := decide_eq_true hlt
      have hn6 : n ≤ 6 := by rw [← hn.out]; exact HC.out.2
      have hw1 : wrap64 (k : Int) = (k : Int) := by unfold wrap64; omega
      obtain ⟨st, hst⟩ : ∃ st, Hid (S.state ((k : Int) - 1) = st) := ⟨_, Lib.hid rfl⟩
      have hne : (st != st) = false := by simp
      have HL := Lib.hid (And.intro hlt hk)
      clear hlt hk
      go_wp2_with (first
        | (go_at_call 14; refine (HA.out _).mono ?_; rintro e w' ⟨rfl, rfl⟩; rw [hst.out])
        | (go_at_call 53; refine (HB.out _).mono ?_; rintro e w' ⟨rfl, rfl⟩; rw [hst.out]))
      go_roundw
      case rel => exact ⟨⟨rfl, k + 1, by have := HL.out; omega, congrArg (Value.int .i64) (by omega)⟩⟩
      case measure => rw [hw1]; exact meas_al HL.out.1
    have hltd : decide ((k : Int) - 1 ≤ n) = false := decide_eq_false hlt
    clear hlt hk HA HB
    have e := hn.out
    clear hn
    subst e
    have hpl := places_any S.cfg _ wr (H2.out.2.perm (show _ = shelfAt SH p S * (rshAt RS q S * (pts B (.cells (cfgA S.cfg) TCfg (0, 0)) * F)) from by ac_rfl)) ⟨by have := HC.out; omega, HC.out.2⟩ (fun j hj => ⟨by have h := HWF.out.cfg; have := h.log; have := h.image; have := h.rows; unfold szN; split <;> (try split) <;> (try split) <;> omega, HD.out.2 j hj⟩)
    have HPL := Lib.hid hpl
    have HH := Lib.hid H2.out.1
    clear hpl H2
    go_upto_region 10 with (go_at_call 54; refine HPL.out.mono ?_; rintro e w3 ⟨v, rfl, h3⟩)
    clear HPL c0 c1 c2 c3 c4 c5 hltd
    have H4 := Lib.hid (show Same w w3 ∧ Sat w3 (shelfAt SH p S * (rshAt RS q S * (ownAt TPl 3 v (plsL S.cfg S.cfg.disks.toNat).length (plsC (plsL S.cfg S.cfg.disks.toNat)) * (pts B (.cells (cfgA S.cfg) TCfg (0, 0)) * F)))) from ⟨HH.out.trans h3.out.1, h3.out.2.1.perm (by ac_rfl)⟩)
    have HLN := Lib.hid (show (plsL S.cfg S.cfg.disks.toNat).length ≤ 600 from by have h1 := h3.out.2.2; have h2 := HC.out; omega)
    clear h3 HH
    generalize plsL S.cfg S.cfg.disks.toNat = L at H4 HLN
    obtain ⟨n, hn⟩ : ∃ n, Hid (L.length = n) := ⟨_, Lib.hid rfl⟩
    rw [hn.out] at H4 HLN
    obtain ⟨ao, cap, rfl⟩ := ownAt_slice (H4.out.2.perm (show _ = ownAt TPl 3 v n (plsC L) * (shelfAt SH p S * (rshAt RS q S * (pts B (.cells (cfgA S.cfg) TCfg (0, 0)) * F))) from by ac_rfl))
    go_upto_region 11 with (fail)
    go_loopw [8] (fun i wr => AlkB w p q S F B (.slice ao n cap) n L i wr) (fun i _ => n - (intOf i).toNat)
    case atStart => exact ⟨0, Nat.zero_le _, rfl, H4.out⟩
    case round =>
      clear H4
      obtain ⟨k, hk, rfl, H4⟩ := hrel.st
      clear hrel
      have HK := Lib.hid hk
      have hln := HLN.out
      by_cases hlt : k < n
      · have hltd : decide ((k : Int) < (n : Int)) = true := decide_eq_true (by omega)
        have hki : (k : Int) < (n : Int) := by omega
        have hk0 : (0 : Int) ≤ (k : Int) := by omega
        have hk6 : (k : Int) ≤ 600 := by omega
        have hw1 : IntKind.i64.wrap ((k : Int) + 1) = (k : Int) + 1 := IntWalk.i64_in _ (by omega)
        obtain ⟨a, ha⟩ : ∃ a, L[k]? = some a := ⟨_, List.getElem?_eq_getElem (by rw [hn.out]; exact hlt)⟩
        have hrow := fun (w' : World) (h : Sat w' (shelfAt SH p S * (rshAt RS q S * (ownAt TPl 3 (.slice ao n cap) n (plsC L) * (pts B (.cells (cfgA S.cfg) TCfg (0, 0)) * F))))) => pls_cells (T := TPl) hn.out (h.perm (show _ = ownAt TPl 3 (.slice ao n cap) n (plsC L) * (shelfAt SH p S * (rshAt RS q S * (pts B (.cells (cfgA S.cfg) TCfg (0, 0)) * F))) from by ac_rfl)) ha
        have HROW := Lib.hid hrow
        obtain ⟨g, rfl, d0, d1, d2⟩ := hrow _ H4.out.2
        obtain ⟨pk, hpk⟩ : ∃ pk, Hid (S.peek a = pk) := ⟨_, Lib.hid rfl⟩
        obtain ⟨ps, pb⟩ := pk
        have HP := Lib.hid (fun (w' : World) (h : Sat w' (shelfAt SH p S * (rshAt RS q S * (ownAt TPl 3 (.slice (some ⟨g, 0, none⟩) n cap) n (plsC L) * (pts B (.cells (cfgA S.cfg) TCfg (0, 0)) * F))))) => peek_any p S _ a w' h)
        have HQ := Lib.hid (fun (w' : World) (h : Sat w' (shelfAt SH p S * (rshAt RS q S * (ownAt TPl 3 (.slice (some ⟨g, 0, none⟩) n cap) n (plsC L) * (pts B (.cells (cfgA S.cfg) TCfg (0, 0)) * F))))) => rpeek_any q S _ a w' (h.perm (show _ = rshAt RS q S * (shelfAt SH p S * (ownAt TPl 3 (.slice (some ⟨g, 0, none⟩) n cap) n (plsC L) * (pts B (.cells (cfgA S.cfg) TCfg (0, 0)) * F))) from by ac_rfl)))
        have hq1 : ((strB ps).data == (strB ps).data) = true := by simp
        have hq2 : (pb != pb) = false := by simp
        clear hlt hk hrow hln
        go_upto_region 14 with (go_at_call 55; refine (HP.out _ H4.out.2).mono ?_; rintro e w5 ⟨rfl, h5⟩; rw [hpk.out]; replace H4 := Lib.hid (And.intro (H4.out.1.trans h5.1) h5.2); clear h5 d0 d1 d2)
        obtain ⟨g', hgg, d0, d1, d2⟩ := HROW.out _ H4.out.2
        obtain rfl : g' = g := by simpa using hgg.symm
        go_upto_region 15 with (go_at_call 56; refine (HQ.out _ H4.out.2).mono ?_; rintro e w6 ⟨rfl, h6⟩; rw [hpk.out]; replace H4 := Lib.hid (And.intro (H4.out.1.below h6.out) (H4.out.2.below h6.out)); clear h6 d0 d1 d2)
        go_wp2
        go_roundw
        case rel => exact ⟨⟨k + 1, by have := hki; omega, rfl, H4.out⟩⟩
        case measure => simp only [intOf]; omega
      · have hltd : decide (k < n) = false := decide_eq_false (by omega)
        clear hlt hk hln
        go_wp2
        go_ret
        exact ⟨rfl, H4.out.1, (H4.out.2.perm (show _ = ownAt TPl 3 (.slice ao n cap) n (plsC L) * (pts B (.cells (cfgA S.cfg) TCfg (0, 0)) * (shelfAt SH p S * (rshAt RS q S * F))) from by ac_rfl)).right.right⟩
end Go.Proofs.YtogmkbhbmmgidaaGreat
end
section
namespace Go.Proofs.YtogmkbhbmmgidaaGreat
open Go.RowKit Go.Sl Go.ChangeMaps
theorem small_of {c : CfgM} (h : smallB c = true) (hok : c.ok = true) : c.sectors ≤ 65536 ∧ c.disks ≤ 6 ∧ ∀ j, j < 4 → szN c j ≤ 24 := by
  have hs := sec17_eq hok
  unfold smallB at h
  simp only [Bool.and_eq_true, decide_eq_true_eq] at h
  obtain ⟨⟨⟨⟨h1, h2⟩, h3⟩, h4⟩, h5⟩ := h
  refine ⟨by omega, h1, fun j _ => ?_⟩
  unfold szN; split <;> (try split) <;> (try split) <;> omega
end Go.Proofs.YtogmkbhbmmgidaaGreat
end
