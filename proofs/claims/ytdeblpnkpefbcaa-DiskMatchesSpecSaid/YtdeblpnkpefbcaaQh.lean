/- solventref16.Do. Printed by qh.py. -/
import Derived.Test.YtdeblpnkpefbcaaLd
import Derived.Test.YtdeblpnkpefbcaaQg
namespace Go.Proofs.Ytdeblpnkpefbcaa
open Go.RowKit Go.Sl Go.ChangeMaps

section
variable {p : Nat} {D D' : DiskM} {F : HProp} {w : World} {kr : Int}
theorem rs_write (i : Int) (s : List UInt8) (hS : Sat w (refD RT p D * F)) (h1 : (D.write i s).1 = D') (h2 : (D.write i s).2 = kr) :
    Calls Try.prog 35 #[.pointer (some ⟨p, 0, none⟩), .int .i64 i, .string (strV s)] w fun e w' => e = .returned (.int .i64 kr) ∧ Hid (Same w w' ∧ Sat w' (refD RT p D' * F)) := by
  subst h1 h2; exact rwrite_any p D F i s w hS
theorem rs_flush (hS : Sat w (refD RT p D * F)) (h1 : D.flush = D') :
    Calls Try.prog 36 #[.pointer (some ⟨p, 0, none⟩)] w fun e w' => e = .returned (.tuple #[]) ∧ Hid (Same w w' ∧ Sat w' (refD RT p D' * F)) := by
  subst h1; exact rflush_any p D F w hS
theorem rs_cut (pv : Value) (picks : List Int) (hS : Sat w (refD RT p D * F)) (hpk : ∀ w', Sat w' F → IntsAt w' pv picks) (h1 : D.cut picks = D') :
    Calls Try.prog 37 #[.pointer (some ⟨p, 0, none⟩), pv] w fun e w' => e = .returned (.tuple #[]) ∧ Hid (Same w w' ∧ Sat w' (refD RT p D' * F)) := by
  subst h1; exact rcut_any p D F pv picks w hS hpk
theorem rs_rot (i j : Int) (hS : Sat w (refD RT p D * F)) (h : D.rot i j = (D', kr)) :
    Calls Try.prog 38 #[.pointer (some ⟨p, 0, none⟩), .int .i64 i, .int .i64 j] w fun e w' => e = .returned (.int .i64 kr) ∧ Hid (Same w w' ∧ Sat w' (refD RT p D' * F)) := by
  have h1 : (D.rot i j).1 = D' := by rw [h]
  have h2 : (D.rot i j).2 = kr := by rw [h]
  subst h1 h2; exact rrot_any p D F i j w hS
theorem rs_lose (i : Int) (hS : Sat w (refD RT p D * F)) (h1 : (D.lose i).1 = D') (h2 : (D.lose i).2 = kr) :
    Calls Try.prog 39 #[.pointer (some ⟨p, 0, none⟩), .int .i64 i] w fun e w' => e = .returned (.int .i64 kr) ∧ Hid (Same w w' ∧ Sat w' (refD RT p D' * F)) := by
  subst h1 h2; exact rlose_any p D F i w hS
theorem rs_mis (i j : Int) (hS : Sat w (refD RT p D * F)) (h1 : (D.misdirect i j).1 = D') (h2 : (D.misdirect i j).2 = kr) :
    Calls Try.prog 40 #[.pointer (some ⟨p, 0, none⟩), .int .i64 i, .int .i64 j] w fun e w' => e = .returned (.int .i64 kr) ∧ Hid (Same w w' ∧ Sat w' (refD RT p D' * F)) := by
  subst h1 h2; exact rmisdirect_any p D F i j w hS
end
set_option linter.unusedSimpArgs false in
set_option maxHeartbeats 2000000 in
theorem rdo_any (p : Nat) (D : DiskM) (F : HProp) (o : OpM) (pv : Value) (w : World) (hS : Sat w (refD RT p D * F)) (hpk : ∀ w', Sat w' F → IntsAt w' pv o.picks) :
    Calls Try.prog 16 #[.pointer (some ⟨p, 0, none⟩), .agg (opA o pv)] w fun e w' => e = .returned (.int .i64 (doM D o).2) ∧ Hid (Same w w' ∧ Sat w' (refD RT p (doM D o).1 * F)) := by
  have HS := Lib.hid hS
  have HPK := Lib.hid hpk
  clear hS hpk
  obtain ⟨⟨D', kr⟩, hdm⟩ : ∃ r : DiskM × Int, doM D o = r := ⟨_, rfl⟩
  rw [hdm]
  unfold doM at hdm
  have HDM := Lib.hid hdm
  clear hdm
  go_enter Try.func16, Try.ntmps16
  go_upto_region 1 with (fail)
  have hs0 := (HS.out).alloc (.cells (opA o pv) TOp)
  have hsm0 := (Same.refl w).alloc (.cells (opA o pv) TOp)
  generalize w.alloc (.cells (opA o pv) TOp) = w1 at hs0 hsm0 ⊢
  generalize w.heap.size = B at hs0 ⊢
  have c0 : w1.cell? ⟨B, 0, none⟩ = some (.int .i64 o.kind) := by rw [cells_at hs0.block]; rfl
  have c1 : w1.cell? ⟨B, 1, none⟩ = some (.int .i64 o.i) := by rw [cells_at hs0.block]; rfl
  have c2 : w1.cell? ⟨B, 2, none⟩ = some (.int .i64 o.j) := by rw [cells_at hs0.block]; rfl
  have c5 : w1.cell? ⟨B, 5, none⟩ = some pv := by rw [cells_at hs0.block]; rfl
  have hrow : w1.rangeAt B 0 (opA o pv).toList := by
    intro j u hu
    rw [cells_at hs0.block, Nat.zero_add, ← hu]; simp
  have H1 := Lib.hid (And.intro hsm0 (hs0.perm (show _ = refD RT p D * (pts B (.cells (opA o pv) TOp (0, 0)) * F) from by ac_rfl)))
  clear hs0 hsm0
  have fin : ∀ (w2 : World), Hid (Same w1 w2 ∧ Sat w2 (refD RT p D' * (pts B (.cells (opA o pv) TOp (0, 0)) * F))) → Hid (Same w w2 ∧ Sat w2 (refD RT p D' * F)) :=
    fun w2 h => ⟨H1.out.1.trans h.out.1, (h.out.2.perm (show _ = pts B (.cells (opA o pv) TOp (0, 0)) * (refD RT p D' * F) from by ac_rfl)).right⟩
  have FIN := Lib.hid fin
  clear fin
  have HDM := HDM.out
  generalize o.kind = kd at c0 HDM
  have HK := Lib.hid HDM
  clear HDM
  have hpk1 : ∀ w', Sat w' (pts B (.cells (opA o pv) TOp (0, 0)) * F) → IntsAt w' pv o.picks := fun w' h => HPK.out w' h.right
  have HPK1 := Lib.hid hpk1
  clear hpk1
  by_cases h1 : kd = 1
  · subst h1
    have hd : D.write o.i o.text = (D', kr) := HK.out
    have HD := Lib.hid hd
    clear hd
    go_upto_region 3 with (fail)
    have hS0 : w1.drew.cell? ⟨B, 1, none⟩ = some (.int .i64 o.i) ∧ w1.drew.rangeAt B 0 (opA o pv).toList := ⟨c1, hrow⟩
    refine reg_begin (fun w' => w'.cell? ⟨B, 1, none⟩ = some (.int .i64 o.i) ∧ w'.rangeAt B 0 (opA o pv).toList) (by kernel_rfl) ?_
    (apply reg_take 0 rfl rfl (by decide +kernel) rfl); (rintro w' ⟨h1, h2⟩; go_simp; rfl); exact hS0; simp only [List.setIfInBounds_toArray, List.set_cons_succ, List.set_cons_zero]
    (apply reg_take 1 rfl rfl (by decide +kernel) rfl); (rintro w' ⟨h1, h2⟩; go_simp; rfl); exact hS0; simp only [List.setIfInBounds_toArray, List.set_cons_succ, List.set_cons_zero]
    (apply reg_take 2 rfl rfl (by decide +kernel) rfl); (rintro w' ⟨h1, h2⟩; go_simp; rfl); exact hS0; simp only [List.setIfInBounds_toArray, List.set_cons_succ, List.set_cons_zero]
    refine reg_take 3 (v := .agg (opA o pv)) rfl rfl (by decide +kernel) rfl (fun w' h => exec_load rfl rfl (run_loadAt_mid w' B 0 TOp (opA o pv).toList _ h.2 Try.underlying32 rfl (by rw [infoTOp o pv]; rfl))) hS0 ?_; simp only [List.setIfInBounds_toArray, List.set_cons_succ, List.set_cons_zero]
    refine reg_call 4 rfl rfl (by decide +kernel) rfl (f := 25) (args := #[.agg (opA o pv)]) (R := fun v w' => v = .string (strV o.text) ∧ Hid (Below w1.heap.size w1 w')) (by kernel_rfl) ((text_any o pv w1.drew).mono fun e w' h => ⟨_, h.1, rfl, ⟨h.2.out.os, h.2.out.tape, h.2.out.output, h.2.out.size, h.2.out.block⟩⟩) ?_
    rintro _ w2 ⟨rfl, hb⟩
    have hB : B < w1.heap.size := World.block_lt_of_cell? _ _ c0
    have hS1 : w2.cell? ⟨B, 1, none⟩ = some (.int .i64 o.i) ∧ w2.rangeAt B 0 (opA o pv).toList := ⟨(hb.out.cell (p := ⟨B, 1, none⟩) hB).trans c1, fun j u hu => (hb.out.cell (p := ⟨B, 0 + j, none⟩) hB).trans (hrow j u hu)⟩
    refine ⟨hS1, ?_⟩
    simp only [List.setIfInBounds_toArray, List.set_cons_succ, List.set_cons_zero]
    refine reg_call 5 rfl rfl (by decide +kernel) rfl (f := 35) (args := #[.pointer (some ⟨p, 0, none⟩), .int .i64 o.i, .string (strV o.text)]) (R := fun v w' => v = .int .i64 kr ∧ Hid (Same w1 w' ∧ Sat w' (refD RT p D' * (pts B (.cells (opA o pv) TOp (0, 0)) * F)))) (by kernel_rfl)
      ((rs_write o.i o.text (H1.out.2.below hb.out) (by rw [HD.out]) (by rw [HD.out])).mono fun e w' h => ⟨_, h.1, rfl, ((Same.refl w1).below hb.out).trans h.2.out.1, h.2.out.2⟩) ?_
    rintro _ w3 ⟨rfl, hb3⟩
    have hsb := hb3.out.2.perm (show _ = pts B (.cells (opA o pv) TOp (0, 0)) * (refD RT p D' * F) from by ac_rfl)
    have hS2 : w3.cell? ⟨B, 1, none⟩ = some (.int .i64 o.i) ∧ w3.rangeAt B 0 (opA o pv).toList := ⟨by rw [cells_at hsb.block]; rfl, fun j u hu => by rw [cells_at hsb.block, Nat.zero_add, ← hu]; simp⟩
    refine ⟨hS2, ?_⟩
    clear hsb
    simp only [List.setIfInBounds_toArray, List.set_cons_succ, List.set_cons_zero]
    (apply reg_take 6 rfl rfl (by decide +kernel) rfl); (rintro w' ⟨h1, h2⟩; go_simp; rfl); exact hS2; simp only [List.setIfInBounds_toArray, List.set_cons_succ, List.set_cons_zero]
    refine reg_done (by decide +kernel) ?_
    go_wp2
    go_ret
    exact ⟨rfl, FIN.out _ hb3⟩
  by_cases h2 : kd = 2
  · subst h2
    have hd : (D.flush, (0 : Int)) = (D', kr) := HK.out
    injection hd with e1 e2
    subst e2
    have HD := Lib.hid e1
    clear e1
    go_wp2_with (go_at_call 36; refine (rs_flush H1.out.2 HD.out).mono ?_; rintro e w' ⟨rfl, h2⟩)
    go_ret
    exact ⟨rfl, FIN.out _ h2⟩
  by_cases h3 : kd = 3
  · subst h3
    have hd : (D.cut o.picks, (0 : Int)) = (D', kr) := HK.out
    injection hd with e1 e2
    subst e2
    have HD := Lib.hid e1
    clear e1
    go_wp2_with (go_at_call 37; refine (rs_cut pv o.picks H1.out.2 HPK1.out HD.out).mono ?_; rintro e w' ⟨rfl, h2⟩)
    go_ret
    exact ⟨rfl, FIN.out _ h2⟩
  by_cases h4 : kd = 4
  · subst h4
    have hd : D.rot o.i o.j = (D', kr) := HK.out
    have HD := Lib.hid hd
    clear hd
    go_wp2_with (go_at_call 38; refine (rs_rot o.i o.j H1.out.2 HD.out).mono ?_; rintro e w' ⟨rfl, h2⟩)
    go_ret
    exact ⟨rfl, FIN.out _ h2⟩
  by_cases h5 : kd = 5
  · subst h5
    have hd : D.lose o.i = (D', kr) := HK.out
    have HD := Lib.hid hd
    clear hd
    go_wp2_with (go_at_call 39; refine (rs_lose o.i H1.out.2 (by rw [HD.out]) (by rw [HD.out])).mono ?_; rintro e w' ⟨rfl, h2⟩)
    go_ret
    exact ⟨rfl, FIN.out _ h2⟩
  by_cases h6 : kd = 6
  · subst h6
    have hd : D.misdirect o.i o.j = (D', kr) := HK.out
    have HD := Lib.hid hd
    clear hd
    go_wp2_with (go_at_call 40; refine (rs_mis o.i o.j H1.out.2 (by rw [HD.out]) (by rw [HD.out])).mono ?_; rintro e w' ⟨rfl, h2⟩)
    go_ret
    exact ⟨rfl, FIN.out _ h2⟩
  · have hd : (D, (0 : Int)) = (D', kr) := by have := HK.out; rw [if_neg h1, if_neg h2, if_neg h3, if_neg h4, if_neg h5, if_neg h6] at this; exact this
    injection hd with e1 e2
    subst e1 e2
    have q1 : (kd == 1) = false := by simpa using h1
    have q2 : (kd == 2) = false := by simpa using h2
    have q3 : (kd == 3) = false := by simpa using h3
    have q4 : (kd == 4) = false := by simpa using h4
    have q5 : (kd == 5) = false := by simpa using h5
    have q6 : (kd == 6) = false := by simpa using h6
    clear h1 h2 h3 h4 h5 h6
    go_wp2
    go_ret
    exact ⟨rfl, FIN.out _ ⟨Same.refl _, H1.out.2⟩⟩

end Go.Proofs.Ytdeblpnkpefbcaa
