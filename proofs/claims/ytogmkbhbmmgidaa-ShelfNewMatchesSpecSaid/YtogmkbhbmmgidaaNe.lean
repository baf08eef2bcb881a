/- solventref17.Peek. -/
import Derived.Test.YtogmkbhbmmgidaaNd
namespace Go.Proofs.Ytogmkbhbmmgidaa
open Go.RowKit Go.Sl Go.ChangeMaps

theorem peek_ok {S : ShelfM} (h : S.WF) {a : PlaceM} (h0 : 0 ≤ S.number a) (h1 : S.state a.disk = 1) : S.peek a = (((S.disk a.disk).read (S.number a)).1, true) := by
  have hl := (ShelfM.number_lt h h0).2.2.2.2.2.2
  have hn := ShelfM.disk_n h h1
  unfold ShelfM.peek
  rw [if_neg (by omega), if_pos h1]
  have hr : ((S.disk a.disk).read (S.number a)).2 = 0 := by
    unfold DiskM.read
    have hh : (S.disk a.disk).has (S.number a) = true := by unfold DiskM.has; rw [decide_eq_true h0, decide_eq_true (by omega)]; rfl
    rw [if_pos hh]
  rw [hr]; rfl
set_option maxRecDepth 40000 in
set_option maxHeartbeats 4000000 in
theorem rpeek_any (p : Nat) (S : ShelfM) (F : HProp) (a : PlaceM) (w : World) (hS : Sat w (rshAt RS p S * F)) :
    Calls Try.prog 13 #[.pointer (some ⟨p, 0, none⟩), .agg (plA a)] w fun e w' => e = .returned (.tuple #[.string (strB (S.peek a).1), .bool (S.peek a).2]) ∧ Hid (Below w.heap.size w w') := by
  have hwf := rshAt_wf hS
  have HWF := Lib.hid hwf
  have hA := hS.alloc (.cells (plA a) TPl)
  have HA := Lib.hid (show Below w.heap.size w (w.alloc (.cells (plA a) TPl)) ∧ Sat (w.alloc (.cells (plA a) TPl)) (rshAt RS p S * (pts w.heap.size (.cells (plA a) TPl (0, 0)) * F)) from ⟨(Below.refl _ _).alloc (Nat.le_refl _) _, hA.perm (by ac_rfl)⟩)
  obtain ⟨pk, hpk⟩ : ∃ pk, Hid (S.peek a = pk) := ⟨_, Lib.hid rfl⟩
  obtain ⟨nu, hnu⟩ : ∃ nu, Hid (S.number a = nu) := ⟨_, Lib.hid rfl⟩
  obtain ⟨nm, hnm⟩ : ∃ nm, Hid (numM S a = nm) := ⟨_, Lib.hid rfl⟩
  obtain ⟨nb, hnb⟩ : ∃ nb, Hid (decide (0 ≤ nu) = nb) := ⟨_, Lib.hid rfl⟩
  rw [hpk.out]
  clear hS hA hwf
  go_enter Try.func13, Try.ntmps13
  go_upto_region 1 with (fail)
  unfold plA at HA
  generalize hw1 : w.alloc _ = W1 at HA ⊢
  clear hw1
  generalize hBB : w.heap.size = B at HA ⊢
  have HBB := Lib.hid (show B ≤ W1.heap.size from by rw [← hBB]; exact HA.out.1.size)
  have HBQ := Lib.hid hBB
  clear hBB
  have hbx := (HA.out.2.perm (show _ = pts B (.cells #[.int .i64 a.disk, .int .i64 a.area, .int .i64 a.index] TPl (0, 0)) * (rshAt RS p S * F) from by ac_rfl))
  have b0 : W1.cell? ⟨B, 0, none⟩ = some (.int .i64 a.disk) := cells_at hbx.block 0
  have b1 : W1.cell? ⟨B, 1, none⟩ = some (.int .i64 a.area) := cells_at hbx.block 1
  have b2 : W1.cell? ⟨B, 2, none⟩ = some (.int .i64 a.index) := cells_at hbx.block 2
  clear hbx
  go_upto_region 2 with (go_at_call 38; refine (rnumber_any p S _ a W1 HA.out.2).mono ?_; rintro e w2 ⟨rfl, hb⟩; rw [hnu.out, hnm.out, hnb.out]; replace HA := Lib.hid (And.intro (HA.out.1.trans (hb.mono HBB.out)) (HA.out.2.below hb)); clear hb b0 b1 b2)
  have hbx := (HA.out.2.perm (show _ = pts B (.cells #[.int .i64 a.disk, .int .i64 a.area, .int .i64 a.index] TPl (0, 0)) * (rshAt RS p S * F) from by ac_rfl))
  have b0 : w2.cell? ⟨B, 0, none⟩ = some (.int .i64 a.disk) := cells_at hbx.block 0
  clear hbx
  by_cases k0 : 0 ≤ nu
  case neg =>
    obtain rfl : nb = false := by rw [← hnb.out]; exact decide_eq_false k0
    obtain rfl : pk = ([], false) := by rw [← hpk.out]; unfold ShelfM.peek; rw [hnu.out, if_pos (by omega)]
    clear k0
    go_quiet (fail)
    go_wp2
    go_ret2
    exact ⟨rfl, by rw [HBQ.out]; exact below_drewN HA.out.1 _⟩
  obtain rfl : nb = true := by rw [← hnb.out]; exact decide_eq_true k0
  have hlt := ShelfM.number_lt HWF.out (a := a) (by rw [hnu.out]; exact k0)
  obtain ⟨hd0, hd1⟩ := ShelfM.state_in HWF.out hlt.1
  obtain ⟨k, hk⟩ := Int.eq_ofNat_of_zero_le hd0
  rw [hk] at b0
  obtain ⟨g, capb, gs, caps, q, R, ⟨c6, c7⟩, ⟨cq, cs⟩, hq⟩ := rsh_bay HA.out.2 (k := k) (by omega)
  have HQ := Lib.hid hq
  have hki : (k : Int) < (S.bays.length : Int) := by omega
  have hk0 : (0 : Int) ≤ (k : Int) := by omega
  obtain ⟨len, hlen⟩ : ∃ len, S.bays.length = len := ⟨_, rfl⟩
  rw [hlen] at c6 c7 hki
  obtain ⟨st, hst⟩ : ∃ st, Hid (S.state k = st) := ⟨_, Lib.hid rfl⟩
  rw [hst.out] at cs
  have HK := Lib.hid hk
  clear hlt hd0 hd1 hk hq hlen
  by_cases k1 : st = 1
  case neg =>
    obtain rfl : pk = ([], false) := by rw [← hpk.out]; unfold ShelfM.peek; rw [hnu.out, if_neg (by omega), HK.out, if_neg (by rw [hst.out]; exact k1)]
    have k1' : (st != 1) = true := by simp [k1]
    clear k0 k1
    go_quiet (fail)
    go_wp2
    go_ret2
    exact ⟨rfl, by rw [HBQ.out]; exact below_drewN HA.out.1 _⟩
  subst k1
  have hpe := peek_ok HWF.out (a := a) (by rw [hnu.out]; exact k0) (by rw [HK.out]; exact hst.out)
  rw [hpk.out, hnu.out, HK.out] at hpe
  subst hpe
  have hnn : nm = nu := by rw [← hnm.out]; unfold numM; rw [hnu.out, if_neg (by omega)]
  subst hnn
  have HRD := Lib.hid (fun n => rread_any q (S.disk k) R nm (w2.drewN n) (HQ.out.drewN n))
  clear k0
  go_quiet (fail)
  go_upto_region 4 with (fail)
  go_quiet ((go_at_call 39; exact (HRD.out _).mono fun e w' h => ⟨h.1, _, h.2.symm⟩))
  go_wp2
  go_ret2
  exact ⟨rfl, by rw [HBQ.out]; exact below_drewN HA.out.1 _⟩
end Go.Proofs.Ytogmkbhbmmgidaa
