/- shelf.Read. -/
import Derived.Test.YtogmkbhbmmgidaaSw
namespace Go.Proofs.Ytogmkbhbmmgidaa
open Go.RowKit Go.Sl Go.ChangeMaps

def ReadOut (p : Nat) (S : ShelfM) (F : HProp) (r : List UInt8 × Int) (w : World) (e : Ending) (w' : World) : Prop := e = .returned (.tuple #[.string (strB r.1), .int .i64 r.2]) ∧ Same w w' ∧ Sat w' (shelfAt SH p S * F)

set_option maxRecDepth 100000 in
set_option maxHeartbeats 1000000 in
theorem sread_any (p : Nat) (S : ShelfM) (F : HProp) (a : PlaceM) (w : World) (hS : Sat w (shelfAt SH p S * F)) :
    Calls Try.prog 22 #[.pointer (some ⟨p, 0, none⟩), .agg (plA a)] w (ReadOut p S F (S.read a) w) := by
  have hwf := shelfAt_wf hS
  have hnum := number_any p S F a (w.alloc (.cells (plA a) TPl)) (hS.allocKeep _)
  have hA := (hS.alloc (.cells (plA a) TPl)).perm (show _ = shelfAt SH p S * (pts w.heap.size (.cells (plA a) TPl (0, 0)) * F) from by ac_rfl)
  have hrd : S.read a = if S.number a < 0 then ([], 1) else if S.access a.disk ≠ 0 then ([], S.access a.disk) else (S.disk a.disk).read (S.number a) := rfl
  obtain ⟨x, hx⟩ : ∃ x, S.number a = x := ⟨_, rfl⟩
  rw [hx] at hnum hrd
  have HX := Lib.hid hx
  have H1 := Lib.hid (And.intro ((Same.refl w).alloc (.cells (plA a) TPl)) hA)
  clear hA hS
  by_cases h0 : x < 0
  · rw [if_pos h0] at hrd
    rw [hrd]
    have hb : decide (x < 0) = true := decide_eq_true h0
    clear hrd h0 hwf hx
    go_enter Try.func22, Try.ntmps22
    go_wp2_with (go_at_call 50; refine hnum.mono ?_; rintro e w1 ⟨rfl, hb1⟩; replace H1 := Lib.hid (And.intro (H1.out.1.below hb1.out) (H1.out.2.below hb1.out)); clear hb1)
    go_ret2
    exact ⟨rfl, H1.out.1, (H1.out.2.perm (show _ = pts w.heap.size (.cells (plA a) TPl (0, 0)) * (shelfAt SH p S * F) from by ac_rfl)).right⟩
  rw [if_neg h0] at hrd
  have hb : decide (x < 0) = false := decide_eq_false h0
  have hn0 : 0 ≤ S.number a := by omega
  have hst := (ShelfM.number_lt hwf hn0).1
  have hin := ShelfM.state_in hwf hst
  have HST := Lib.hid hst
  obtain ⟨⟨d, ar, ix⟩, ha⟩ : ∃ b : PlaceM, a = b := ⟨_, rfl⟩
  subst ha
  simp only at *
  obtain ⟨k, rfl⟩ := Int.eq_ofNat_of_zero_le hin.1
  have hk := hin.2
  clear hn0 hin hwf hx h0 hst
  go_enter Try.func22, Try.ntmps22
  go_upto_region 4 with (go_at_call 50; refine hnum.mono ?_; rintro e w1 ⟨rfl, hb1⟩; replace H1 := Lib.hid (And.intro (H1.out.1.below hb1.out) (H1.out.2.below hb1.out)); clear hb1)
  generalize w.heap.size = B at H1 ⊢
  have c0 : w1.cell? ⟨B, 0, none⟩ = some (.int .i64 (k : Int)) := cells_at (H1.out.2.perm (show _ = pts B (.cells (plA ⟨(k : Int), ar, ix⟩) TPl (0, 0)) * (shelfAt SH p S * F) from by ac_rfl)).block 0
  have hacc := access_any p S _ k w1 H1.out.2 HST.out
  obtain ⟨ac, hac⟩ : ∃ ac, S.access (k : Int) = ac := ⟨_, rfl⟩
  rw [hac] at hacc hrd
  by_cases ha : ac = 0
  case neg =>
    rw [if_pos ha] at hrd
    have HRD := Lib.hid hrd
    have hab : (ac != 0) = true := by simp [ha]
    clear hrd ha hac
    go_wp2_with (go_at_call 51; refine hacc.mono ?_; rintro e w' ⟨rfl, rfl⟩; clear hacc)
    go_ret2
    rw [HRD.out]
    exact ⟨rfl, H1.out.1, (H1.out.2.perm (show _ = pts B (.cells (plA ⟨(k : Int), ar, ix⟩) TPl (0, 0)) * (shelfAt SH p S * F) from by ac_rfl)).right⟩
  rw [if_neg (by simp [ha])] at hrd
  subst ha
  have HRD := Lib.hid hrd
  clear hrd hac
  go_upto_region 7 with (go_at_call 51; refine hacc.mono ?_; rintro e w' ⟨rfl, rfl⟩; clear hacc)
  obtain ⟨g, cap', q, vi, G, hs, ⟨hpg, hg⟩, b0, b1, hf, hcl, hbc⟩ := shelf_bay H1.out.2 (d := k) (by omega)
  obtain ⟨⟨q6, q7, q8, q9, q10⟩, hp, hfp, hra⟩ := shelf_cells hs
  obtain ⟨n, hnn⟩ : ∃ n, S.bays.length = n := ⟨_, rfl⟩
  rw [hnn] at q6 hk
  have hrdd := read_any q (S.disk k) (pts p (.cells (shelfC S.cfg (.slice (some ⟨g, 0, none⟩) S.bays.length cap') vi S.off S.fused S.left) TSh (0, 0)) * ((pts B (.cells (plA ⟨(k : Int), ar, ix⟩) TPl (0, 0)) * F) * G)) x w1.drew (hs.drew.perm (by ac_rfl))
  obtain ⟨⟨t, ek⟩, hr⟩ : ∃ r, (S.disk k).read x = r := ⟨_, rfl⟩
  rw [hr] at hrdd
  have hrd2 : S.read ⟨(k : Int), ar, ix⟩ = (t, ek) := by rw [HRD.out]; exact hr
  have HRD2 := Lib.hid hrd2
  simp only at hrdd
  obtain ⟨tib, htib⟩ : ∃ ti, Try.prog.info? TBay = some ti ∧ ti.size = 2 := by have := infoBay (ptrV 0) (ptrV 0); obtain ⟨ti, h1, h2⟩ := Option.map_eq_some_iff.1 this; exact ⟨ti, h1, h2⟩
  have htb := htib.1
  have htb2 := htib.2
  unfold ptrV at b0
  clear hs hf hcl hbc hfp hra hnn htib hr hrd2
  have hS0 : w1.drew.cell? ⟨p, 6, none⟩ = some (.slice (some ⟨g, 0, none⟩) n cap') ∧ w1.drew.cell? ⟨B, 0, none⟩ = some (.int .i64 (k : Int)) ∧ w1.drew.cell? ⟨g, 0 + k * 2, none⟩ = some (.pointer (some ⟨q, 0, none⟩)) := ⟨q6, c0, by rw [Nat.zero_add]; exact b0⟩
  refine reg_begin (fun w' => w'.cell? ⟨p, 6, none⟩ = some (.slice (some ⟨g, 0, none⟩) n cap') ∧ w'.cell? ⟨B, 0, none⟩ = some (.int .i64 (k : Int)) ∧ w'.cell? ⟨g, 0 + k * 2, none⟩ = some (.pointer (some ⟨q, 0, none⟩))) (by kernel_rfl) ?_
  (apply reg_take 0 rfl rfl (by decide +kernel) rfl); (rintro w' ⟨h1, h2, h3⟩; go_simp; rfl); exact hS0; simp only [List.setIfInBounds_toArray, List.set_cons_succ, List.set_cons_zero]
  (apply reg_take 1 rfl rfl (by decide +kernel) rfl); (rintro w' ⟨h1, h2, h3⟩; go_simp; rfl); exact hS0; simp only [List.setIfInBounds_toArray, List.set_cons_succ, List.set_cons_zero]
  (apply reg_take 2 rfl rfl (by decide +kernel) rfl); (rintro w' ⟨h1, h2, h3⟩; go_simp; rfl); exact hS0; simp only [List.setIfInBounds_toArray, List.set_cons_succ, List.set_cons_zero]
  (apply reg_take 3 rfl rfl (by decide +kernel) rfl); (rintro w' ⟨h1, h2, h3⟩; go_simp; rfl); exact hS0; simp only [List.setIfInBounds_toArray, List.set_cons_succ, List.set_cons_zero]
  (apply reg_take 4 rfl rfl (by decide +kernel) rfl); (rintro w' ⟨h1, h2, h3⟩; go_simp; rfl); exact hS0; simp only [List.setIfInBounds_toArray, List.set_cons_succ, List.set_cons_zero]
  (apply reg_take 5 rfl rfl (by decide +kernel) rfl); (rintro w' ⟨h1, h2, h3⟩; go_simp; rfl); exact hS0; simp only [List.setIfInBounds_toArray, List.set_cons_succ, List.set_cons_zero]
  refine reg_take 6 (v := .pointer (some ⟨g, 0 + k * 2, none⟩)) rfl rfl (by decide +kernel) rfl (fun _ _ => exec_index_slice rfl rfl rfl Try.underlying72 htb htb2 (by omega)) hS0 ?_; simp only [List.setIfInBounds_toArray, List.set_cons_succ, List.set_cons_zero]
  (apply reg_take 7 rfl rfl (by decide +kernel) rfl); (rintro w' ⟨h1, h2, h3⟩; rw [Nat.zero_add] at h3; go_simp; rfl); exact hS0; simp only [List.setIfInBounds_toArray, List.set_cons_succ, List.set_cons_zero]
  (apply reg_take 8 rfl rfl (by decide +kernel) rfl); (rintro w' ⟨h1, h2, h3⟩; rw [Nat.zero_add] at h3; go_simp; rfl); exact hS0; simp only [List.setIfInBounds_toArray, List.set_cons_succ, List.set_cons_zero]
  (apply reg_take 9 rfl rfl (by decide +kernel) rfl); (rintro w' ⟨h1, h2, h3⟩; rw [Nat.zero_add] at h3; go_simp; rfl); exact hS0; simp only [List.setIfInBounds_toArray, List.set_cons_succ, List.set_cons_zero]
  refine reg_call 10 rfl rfl (by decide +kernel) rfl (f := 37) (args := #[.pointer (some ⟨q, 0, none⟩), .int .i64 x]) (R := fun v w' => v = .tuple #[.string (strB t), .int .i64 ek] ∧ Hid (Below w1.heap.size w1 w')) (by kernel_rfl) (hrdd.mono fun e w' h => ⟨_, h.1, rfl, ⟨h.2.os, h.2.tape, h.2.output, h.2.size, h.2.block⟩⟩) ?_
  rintro _ w2 ⟨rfl, hb2⟩
  have hBlt : B < w1.heap.size := World.block_lt_of_cell? _ _ c0
  have hS1 : w2.cell? ⟨p, 6, none⟩ = some (.slice (some ⟨g, 0, none⟩) n cap') ∧ w2.cell? ⟨B, 0, none⟩ = some (.int .i64 (k : Int)) ∧ w2.cell? ⟨g, 0 + k * 2, none⟩ = some (.pointer (some ⟨q, 0, none⟩)) := ⟨(hb2.out.cell (p := ⟨p, 6, none⟩) hp).trans q6, (hb2.out.cell (p := ⟨B, 0, none⟩) hBlt).trans c0, (hb2.out.cell (p := ⟨g, 0 + k * 2, none⟩) hg).trans (by rw [Nat.zero_add]; exact b0)⟩
  refine ⟨hS1, ?_⟩
  simp only [List.setIfInBounds_toArray, List.set_cons_succ, List.set_cons_zero]
  (apply reg_take 11 rfl rfl (by decide +kernel) rfl); (rintro w' ⟨h1, h2, h3⟩; go_simp; rfl); exact hS1; simp only [List.setIfInBounds_toArray, List.set_cons_succ, List.set_cons_zero]
  (apply reg_take 12 rfl rfl (by decide +kernel) rfl); (rintro w' ⟨h1, h2, h3⟩; go_simp; rfl); exact hS1; simp only [List.setIfInBounds_toArray, List.set_cons_succ, List.set_cons_zero]
  (apply reg_take 13 rfl rfl (by decide +kernel) rfl); (rintro w' ⟨h1, h2, h3⟩; go_simp; rfl); exact hS1; simp only [List.setIfInBounds_toArray, List.set_cons_succ, List.set_cons_zero]
  (apply reg_take 14 rfl rfl (by decide +kernel) rfl); (rintro w' ⟨h1, h2, h3⟩; go_simp; rfl); exact hS1; simp only [List.setIfInBounds_toArray, List.set_cons_succ, List.set_cons_zero]
  refine reg_done (by decide +kernel) ?_
  go_wp2
  go_ret2
  rw [HRD2.out]
  exact ⟨rfl, H1.out.1.below hb2.out, ((H1.out.2.below hb2.out).perm (show _ = pts B (.cells (plA ⟨(k : Int), ar, ix⟩) TPl (0, 0)) * (shelfAt SH p S * F) from by ac_rfl)).right⟩

end Go.Proofs.Ytogmkbhbmmgidaa
