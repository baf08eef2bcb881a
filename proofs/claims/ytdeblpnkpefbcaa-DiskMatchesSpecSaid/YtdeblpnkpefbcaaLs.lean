/- solventlaw16.sanity. -/
import Derived.Test.YtdeblpnkpefbcaaLr
import Derived.Test.YtdeblpnkpefbcaaDw
import Derived.Test.YtdeblpnkpefbcaaDo
import Derived.Test.YtdeblpnkpefbcaaDi
import Derived.Test.YtdeblpnkpefbcaaDc
namespace Go.Proofs.Ytdeblpnkpefbcaa
open Go.RowKit Go.Sl Go.ChangeMaps

def strV (s : List UInt8) : ByteArray := ⟨s.toArray⟩
def repA (b : UInt8) : List UInt8 := List.replicate 64 b
def zD0 : DiskM := DiskM.new 2
def zD1 : DiskM := (zD0.write 0 (repA 97)).1
def zD2 : DiskM := zD1.flush
def zD3 : DiskM := (zD2.write 0 (repA 98)).1
def zD4 : DiskM := zD3.cut [3]
def zD5 : DiskM := (zD4.lose 1).1
def zD6 : DiskM := (zD5.write 1 (repA 98)).1
def zD7 : DiskM := (zD6.misdirect 0 1).1
def zD8 : DiskM := (zD7.write 0 (repA 98)).1
theorem zW1 : (zD0.write 0 (repA 97)).2 = 0 := by decide +kernel
theorem zR1 : zD1.read 0 = (repA 97, 0) := by decide +kernel
theorem zP1 : zD1.pending = [0] := by decide +kernel
theorem zW3 : (zD2.write 0 (repA 98)).2 = 0 := by decide +kernel
def zT : List UInt8 := 98 :: 98 :: 98 :: List.replicate 61 97
theorem zR4 : zD4.read 0 = (zT, 0) := by decide +kernel
theorem zL5 : (zD4.lose 1).2 = 0 := by decide +kernel
theorem zW6 : (zD5.write 1 (repA 98)).2 = 0 := by decide +kernel
theorem zR6 : zD6.read 1 = (repA 0, 0) := by decide +kernel
theorem zM7 : (zD6.misdirect 0 1).2 = 0 := by decide +kernel
theorem zW8 : (zD7.write 0 (repA 98)).2 = 0 := by decide +kernel
theorem zR8 : zD8.read 1 = (repA 98, 0) := by decide +kernel
theorem zT9 : zD8.rot 1 512 = (zD8, 1) := by unfold DiskM.rot; rw [if_neg (by omega)]

theorem rep_str (b : UInt8) (w : World) :
    Calls Try.prog 19 #[.string ⟨#[b]⟩, .int .i64 64] w fun e w' => e = .returned (.string (strV (repA b))) ∧ Below w.heap.size w w' := repeat_byte b w

section
variable {p : Nat} {D D' : DiskM} {F : HProp} {w : World}
theorem step_write {k : Int} (i : Int) (s : List UInt8) (hS : Sat w (diskAt TD TS p D * F)) (h1 : (D.write i s).1 = D') (h2 : (D.write i s).2 = k) :
    Calls Try.prog 27 #[.pointer (some ⟨p, 0, none⟩), .int .i64 i, .string (strV s)] w fun e w' => e = .returned (.int .i64 k) ∧ Hid (Same w w' ∧ Sat w' (diskAt TD TS p D' * F)) := by
  subst h1 h2; exact write_any p D F i s w hS
theorem step_read {k : Int} {s : List UInt8} (i : Int) (hS : Sat w (diskAt TD TS p D * F)) (h : D.read i = (s, k)) :
    Calls Try.prog 18 #[.pointer (some ⟨p, 0, none⟩), .int .i64 i] w fun e w' => e = .returned (.tuple #[.string (strV s), .int .i64 k]) ∧ Hid (Below w.heap.size w w') := by
  have := read_any p D F i w hS
  rw [h] at this; exact this
theorem step_flush (hS : Sat w (diskAt TD TS p D * F)) (h : D.flush = D') :
    Calls Try.prog 20 #[.pointer (some ⟨p, 0, none⟩)] w fun e w' => e = .returned (.tuple #[]) ∧ Hid (Same w w' ∧ Sat w' (diskAt TD TS p D' * F)) := by
  subst h; exact flush_all p D F w hS
theorem step_cut (pv : Value) (picks : List Int) (hS : Sat w (diskAt TD TS p D * F)) (hpk : ∀ w', Sat w' F → IntsAt w' pv picks) (h : D.cut picks = D') :
    Calls Try.prog 21 #[.pointer (some ⟨p, 0, none⟩), pv] w fun e w' => e = .returned (.tuple #[]) ∧ Hid (Same w w' ∧ Sat w' (diskAt TD TS p D' * F)) := by
  subst h; exact cut_any p D F pv picks w hS hpk
theorem step_lose {k : Int} (i : Int) (hS : Sat w (diskAt TD TS p D * F)) (h1 : (D.lose i).1 = D') (h2 : (D.lose i).2 = k) :
    Calls Try.prog 26 #[.pointer (some ⟨p, 0, none⟩), .int .i64 i] w fun e w' => e = .returned (.int .i64 k) ∧ Hid (Same w w' ∧ Sat w' (diskAt TD TS p D' * F)) := by
  subst h1 h2; exact lose_any p D F i w hS
theorem step_mis {k : Int} (i j : Int) (hS : Sat w (diskAt TD TS p D * F)) (h1 : (D.misdirect i j).1 = D') (h2 : (D.misdirect i j).2 = k) :
    Calls Try.prog 29 #[.pointer (some ⟨p, 0, none⟩), .int .i64 i, .int .i64 j] w fun e w' => e = .returned (.int .i64 k) ∧ Hid (Same w w' ∧ Sat w' (diskAt TD TS p D' * F)) := by
  subst h1 h2; exact misdirect_any p D F i j w hS
theorem step_rot {k : Int} (i j : Int) (hS : Sat w (diskAt TD TS p D * F)) (h : D.rot i j = (D', k)) :
    Calls Try.prog 30 #[.pointer (some ⟨p, 0, none⟩), .int .i64 i, .int .i64 j] w fun e w' => e = .returned (.int .i64 k) ∧ Hid (Same w w' ∧ Sat w' (diskAt TD TS p D' * F)) := by
  have := rot_all p D F i j w hS
  rw [h] at this; exact this
theorem intsAt_one (w : World) (x : Int) : IntsAt (w.alloc (.cells #[.int .i64 x] 3)) (.slice (some ⟨w.heap.size, 0, none⟩) 1 1) [x] := by
  refine ⟨_, _, rfl, fun _ => ⟨_, _, rfl, fun j y hj => ?_⟩⟩
  rw [cells_at (heap_alloc_new w _)]
  match j, hj with
  | 0, hj => simp at hj; simp [hj]
theorem step_cut1 (x : Int) (hS : Sat w (diskAt TD TS p D * F)) (h : D.cut [x] = D') :
    Calls Try.prog 21 #[.pointer (some ⟨p, 0, none⟩), .slice (some ⟨w.heap.size, 0, none⟩) 1 1] (w.alloc (.cells #[.int .i64 x] 3)) fun e w' => e = .returned (.tuple #[]) ∧ Hid (Same w w' ∧ Sat w' (diskAt TD TS p D' * F)) := by
  subst h
  have h3 := (hS.alloc (.cells #[.int .i64 x] 3)).perm (show _ = diskAt TD TS p D * (pts w.heap.size (.cells #[.int .i64 x] 3 (0, 0)) * F) from by ac_rfl)
  refine (cut_any p D _ _ [x] _ h3 (fun w' h' => ?_)).mono ?_
  · refine ⟨_, _, rfl, fun _ => ⟨_, _, rfl, fun j y hj => ?_⟩⟩
    rw [cells_at h'.block]
    match j, hj with
    | 0, hj => simp at hj; simp [hj]
  · rintro e w' ⟨he, hsm, hs⟩
    exact ⟨he, ((Same.refl w).alloc _).trans hsm, (hs.perm (show _ = pts w.heap.size (.cells #[.int .i64 x] 3 (0, 0)) * (diskAt TD TS p (D.cut [x]) * F) from by ac_rfl)).right⟩
end

/-- What Pending returned, as a resource. -/
theorem step_pend {p : Nat} {D : DiskM} {F : HProp} {w : World} (hS : Sat w (diskAt TD TS p D * F)) :
    Calls Try.prog 24 #[.pointer (some ⟨p, 0, none⟩)] w fun e w' => ∃ (v : Value) (R : HProp), e = .returned v ∧ Hid (Below w.heap.size w w' ∧ Sat w' (R * (diskAt TD TS p D * F)) ∧ ∀ (w2 : World) (Y : HProp), Sat w2 (R * Y) → IntsAt w2 v (D.pending.map Int.ofNat)) := by
  refine (pending_any p D F w hS).mono ?_
  rintro e w1 ⟨v, rfl, hb, hrow, _⟩
  obtain ⟨R, ao, pc, rfl, hS1, hR⟩ := pend_res D w w1 v _ hS hb hrow
  refine ⟨_, R, rfl, hb, hS1, fun w2 Y h2 => ⟨ao, pc, by rw [List.length_map], fun hne => ?_⟩⟩
  have hl : 0 < D.pending.length := by
    rcases Nat.eq_zero_or_pos D.pending.length with h | h
    · exact absurd (by rw [List.eq_nil_of_length_eq_zero h]; rfl) hne
    · exact h
  obtain ⟨g, rfl, _⟩ := hR w2 Y 0 _ h2 (List.getElem?_eq_getElem hl)
  refine ⟨g, 0, rfl, fun j x hj => ?_⟩
  rw [List.getElem?_map] at hj
  obtain ⟨i, hi, rfl⟩ := Option.map_eq_some_iff.1 hj
  obtain ⟨g', hg', hc⟩ := hR w2 Y j i h2 hi
  obtain rfl : g = g' := by simpa using hg'
  rw [Nat.zero_add, Nat.mul_one]; exact hc

theorem same_one {p : Nat} {D : DiskM} {F R : HProp} {w : World} {pv : Value} {l : List Int} (x : Int) (hP : ∀ (w2 : World) (Y : HProp), Sat w2 (R * Y) → IntsAt w2 pv l) (hS : Sat w (diskAt TD TS p D * (R * F))) (hl : l = [x] := by rfl) :
    Calls Try.prog 32 #[pv, .slice (some ⟨w.heap.size, 0, none⟩) 1 1] (w.alloc (.cells #[.int .i64 x] 3)) fun e w' => e = .returned (.bool true) ∧ Hid (Same w w' ∧ Sat w' (diskAt TD TS p D * (R * F))) := by
  subst hl
  have h3 := hS.allocKeep (.cells #[.int .i64 x] 3)
  refine (same_any _ _ _ _ _ (hP _ _ (h3.perm (show _ = R * (diskAt TD TS p D * F) from by ac_rfl))) (intsAt_one w x) (by simp)).mono ?_
  rintro e w' ⟨he, hb⟩
  exact ⟨by rw [he]; simp, ((Same.refl w).alloc _).below hb, h3.below hb⟩

set_option maxHeartbeats 2000000 in
set_option maxRecDepth 100000 in
theorem sanity_any (w : World) : Calls Try.prog 11 #[] w fun e w' => e = .returned (.bool true) ∧ Below w.heap.size w w' := by
  have HO := Lib.hid (Sat.old w)
  go_enter Try.func11, Try.ntmps11
  go_upto_region 2 with (go_at_call 12; refine (new_any 2 (old w) w HO.out).mono ?_; rintro e w1 ⟨p, rfl, H1⟩; replace H1 := Lib.hid H1)
  go_upto_region 4 with (go_at_call 17; refine (len_all p _ _ w1 H1.out.2).mono ?_; rintro e w' ⟨he, hw⟩; subst hw; rw [show ((DiskM.new 2).n : Int) = 2 by decide] at he; subst he)
  go_upto_region 5 with (go_at_call 19; refine (rep_str _ _).mono ?_; rintro e w' ⟨rfl, hb⟩; replace H1 := Lib.hid (And.intro (H1.out.1.below hb) (H1.out.2.below hb)); clear hb)
  replace H1 := Lib.hid (show Same w _ ∧ Sat _ (diskAt TD TS p zD0 * old w) from H1.out)
  go_upto_region 6 with (go_at_call 27; refine (step_write (D' := zD1) (k := 0) 0 (repA 97) H1.out.2 rfl zW1).mono ?_; rintro e w' ⟨rfl, h2⟩; replace H1 := Lib.hid (And.intro (H1.out.1.trans h2.out.1) h2.out.2); clear h2)
  go_upto_region 7 with (go_at_call 18; refine (step_read 0 H1.out.2 zR1).mono ?_; rintro e w' ⟨rfl, hb⟩; replace H1 := Lib.hid (And.intro (H1.out.1.below hb.out) (H1.out.2.below hb.out)); clear hb)
  go_upto_region 8 with (go_at_call 24; refine (step_pend H1.out.2).mono ?_; rintro e w' ⟨pv, R, rfl, h2⟩; replace H1 := Lib.hid (And.intro (H1.out.1.below h2.out.1) (h2.out.2.1.perm (show _ = diskAt TD TS p zD1 * (R * old w) from by ac_rfl))); have HP := Lib.hid h2.out.2.2; clear h2)
  go_upto_region 9 with (go_at_call 20; refine (step_flush (D' := zD2) H1.out.2 rfl).mono ?_; rintro e w' ⟨rfl, h2⟩; replace H1 := Lib.hid (And.intro (H1.out.1.trans h2.out.1) h2.out.2); clear h2)
  go_upto_region 10 with (go_at_call 27; refine (step_write (D' := zD3) (k := 0) 0 (repA 98) H1.out.2 rfl zW3).mono ?_; rintro e w' ⟨rfl, h2⟩; replace H1 := Lib.hid (And.intro (H1.out.1.trans h2.out.1) h2.out.2); clear h2)
  go_upto_region 11 with (go_at_call 21; refine (step_cut1 (D' := zD4) 3 H1.out.2 rfl).mono ?_; rintro e w' ⟨rfl, h2⟩; replace H1 := Lib.hid (And.intro (H1.out.1.trans h2.out.1) h2.out.2); clear h2)
  go_upto_region 12 with (go_at_call 18; refine (step_read 0 H1.out.2 zR4).mono ?_; rintro e w' ⟨rfl, hb⟩; replace H1 := Lib.hid (And.intro (H1.out.1.below hb.out) (H1.out.2.below hb.out)); clear hb)
  go_upto_region 13 with (go_at_call 26; refine (step_lose (D' := zD5) (k := 0) 1 H1.out.2 rfl zL5).mono ?_; rintro e w' ⟨rfl, h2⟩; replace H1 := Lib.hid (And.intro (H1.out.1.trans h2.out.1) h2.out.2); clear h2)
  go_upto_region 14 with (go_at_call 27; refine (step_write (D' := zD6) (k := 0) 1 (repA 98) H1.out.2 rfl zW6).mono ?_; rintro e w' ⟨rfl, h2⟩; replace H1 := Lib.hid (And.intro (H1.out.1.trans h2.out.1) h2.out.2); clear h2)
  go_upto_region 15 with (go_at_call 18; refine (step_read 1 H1.out.2 zR6).mono ?_; rintro e w' ⟨rfl, hb⟩; replace H1 := Lib.hid (And.intro (H1.out.1.below hb.out) (H1.out.2.below hb.out)); clear hb)
  go_upto_region 16 with (go_at_call 29; refine (step_mis (D' := zD7) (k := 0) 0 1 H1.out.2 rfl zM7).mono ?_; rintro e w' ⟨rfl, h2⟩; replace H1 := Lib.hid (And.intro (H1.out.1.trans h2.out.1) h2.out.2); clear h2)
  go_upto_region 17 with (go_at_call 27; refine (step_write (D' := zD8) (k := 0) 0 (repA 98) H1.out.2 rfl zW8).mono ?_; rintro e w' ⟨rfl, h2⟩; replace H1 := Lib.hid (And.intro (H1.out.1.trans h2.out.1) h2.out.2); clear h2)
  go_upto_region 18 with (go_at_call 18; refine (step_read 1 H1.out.2 zR8).mono ?_; rintro e w' ⟨rfl, hb⟩; replace H1 := Lib.hid (And.intro (H1.out.1.below hb.out) (H1.out.2.below hb.out)); clear hb)
  have hsz : (strV (repA 97)).size = 64 := by decide +kernel
  have htl : ((strV zT).toList = ((⟨#[98, 98, 98]⟩ : ByteArray) ++ (strV (repA 97)).extract 3 64).toList) = True := eq_true (by decide +kernel)
  have htm : ((strV zT).toList == ((⟨#[98, 98, 98]⟩ : ByteArray) ++ (strV (repA 97)).extract 3 64).toList) = true := by decide +kernel
  generalize hA : strV (repA 97) = a at hsz htl htm ⊢
  generalize hB : strV (repA 98) = b
  generalize hT : strV zT = t at htl htm ⊢
  generalize hZ : strV (repA 0) = z
  have HA := Lib.hid hA
  have HB := Lib.hid hB
  have HT := Lib.hid hT
  have HZ := Lib.hid hZ
  clear hA hB hT hZ
  go_wp2_with (first
    | (go_at_call 30; refine (step_rot 1 512 H1.out.2 zT9).mono ?_; rintro e w' ⟨rfl, h2⟩; replace H1 := Lib.hid (And.intro (H1.out.1.trans h2.out.1) h2.out.2); clear h2)
    | (go_at_call 19; refine (rep_str _ _).mono ?_; rintro e w' ⟨rfl, hb⟩; rw [HZ.out]; replace H1 := Lib.hid (And.intro (H1.out.1.below hb) (H1.out.2.below hb)); clear hb)
    | (go_at_call 32; refine (same_one (p := p) (D := zD8) 0 HP.out H1.out.2).mono ?_; rintro e w' ⟨rfl, hb⟩; replace H1 := Lib.hid (And.intro (H1.out.1.trans hb.out.1) hb.out.2); clear hb))
  go_ret
  exact ⟨rfl, H1.out.1.below_of (H1.out.2.perm (show _ = diskAt TD TS p zD8 * R * old w from by ac_rfl))⟩

end Go.Proofs.Ytdeblpnkpefbcaa
