/- DiskMatchesSpec: the walk. -/
import Derived.Test.YtdeblpnkpefbcaaQi
import Derived.Test.YtdeblpnkpefbcaaLp
namespace Go.Proofs.Ytdeblpnkpefbcaa
open Go.RowKit Go.Sl Go.ChangeMaps Go.ChangeShapes Go.WideShapes Go.ChangeAt

structure MaSt (w : World) (p q : Nat) (D0 : DiskM) (l : List OpM) (i : Value) (wr : World) : Prop where
  st : ∃ k : Nat, k ≤ l.length ∧ i = .int .i64 (k : Int) ∧ Hid (Same w wr ∧ Sat wr (diskAt TD TS p (runM D0 (l.take k)) * (refD RT q (runM D0 (l.take k)) * old w)))
set_option linter.unusedSimpArgs false in
set_option maxRecDepth 20000 in
set_option maxHeartbeats 4000000 in
theorem matches_any (n : Int) (sv : Value) (l : List OpM) (w : World) (hsc : ScrAt w sv l) :
    Calls Try.prog 3 #[.int .i64 n, sv] w fun e w' => e = .returned (.bool true) ∧ Below w.heap.size w w' := by
  obtain ⟨ao, cap, rfl, hsr⟩ := hsc
  have HSR := Lib.hid hsr
  clear hsr
  have HO := Lib.hid (Sat.old w)
  by_cases hf : 0 ≤ n ∧ n ≤ 40 ∧ l.length ≤ 200
  case neg =>
    have c1 := few_no n ao l.length cap w hf
    clear hf
    go_enter Try.func3, Try.ntmps3
    go_wp2_with (first
      | (go_at_call 10; refine c1.mono ?_; rintro e w' ⟨rfl, hw⟩; subst hw)
      | (go_at_call 11; refine (sanity_any _).mono ?_; rintro e w' ⟨rfl, hb⟩; replace hb := Lib.hid hb))
    go_ret
    exact ⟨rfl, hb.out⟩
  have c1 := few_yes n ao l.length cap w hf.1 hf.2.1 hf.2.2
  have hl := hf.2.2
  clear hf
  go_enter Try.func3, Try.ntmps3
  go_upto_region 4 with (first
    | (go_at_call 10; refine c1.mono ?_; rintro e w' ⟨rfl, hw⟩; subst hw)
    | (go_at_call 12; refine (new_any n (old w) w HO.out).mono ?_; rintro e w1 ⟨p, rfl, H1⟩; replace H1 := Lib.hid H1)
    | (go_at_call 13; refine (rnew16_any n _ w1 H1.out.2).mono ?_; rintro e w2 ⟨q, rfl, H2⟩; replace H1 := Lib.hid (show Same w w2 ∧ Sat w2 (diskAt TD TS p (DiskM.new n) * (refD RT q (DiskM.new n) * old w)) from ⟨H1.out.1.trans H2.out.1, H2.out.2.perm (by ac_rfl)⟩); clear H2))
  generalize DiskM.new n = D0 at H1
  go_upto_region 6 with (go_at_call 14; refine (lsame_any p q D0 _ w2 H1.out.2).mono ?_; rintro e w3 ⟨rfl, H3⟩; replace H1 := Lib.hid (And.intro (H1.out.1.trans H3.out.1) H3.out.2); clear H3)
  go_upto_region 7 with (fail)
  go_loopw [24] (fun i wr => MaSt w p q D0 l i wr) (fun i _ => l.length - (intOf i).toNat)
  case atStart => exact ⟨⟨0, Nat.zero_le _, rfl, H1.out⟩⟩
  case round =>
    clear H1
    obtain ⟨k, hk, rfl, H2⟩ := hrel.st
    clear hrel
    by_cases hlt : k < l.length
    · obtain ⟨o, ho⟩ : ∃ o, l[k]? = some o := ⟨_, List.getElem?_eq_getElem hlt⟩
      obtain ⟨b, off, rfl, hro⟩ := HSR.out (by rintro rfl; simp at hlt)
      obtain ⟨pv, hro1, hint⟩ := hro k o ho
      have hsr := H2.out.2
      have hrow : wr.rangeAt b (off + k * 6) (opA o pv).toList := fun t u hu => (World.cell?_of_block ((hsr.perm (star_assoc _ _ _).symm).of_old b (World.block_lt_of_cell? w ⟨b, off + k * 6 + t, none⟩ (hro1 t u hu)))).trans (hro1 t u hu)
      have hone := IntsAt.one hint
      have hltd : decide ((k : Int) < (l.length : Int)) = true := decide_eq_true (by omega)
      have hki : (k : Int) ≤ 200 := by omega
      have HOO := Lib.hid ho
      have HI := Lib.hid (show ∀ (w' : World) (X : HProp), Sat w' (X * old w) → IntsAt w' pv o.picks from fun w' X h => IntsAt.old hint h)
      have HL := Lib.hid (And.intro hk hlt)
      obtain ⟨D, hD⟩ : ∃ D, runM D0 (l.take k) = D := ⟨_, rfl⟩
      rw [hD] at H2
      have HD := Lib.hid hD
      clear ho hro hro1 hsr hint hD
      go_upto_region 9 with (first
        | ((with_reducible (apply wp_load_scr hrow)); rfl; rfl; rfl)
        | ((with_reducible (refine wpList_alloc_zero ?_ TOp ?_ _ (zeroTOp _) ?_)); rfl; rfl)
        | ((with_reducible (apply wp_store_opf hone)); rfl; rfl; rfl; rfl))
      simp only [Act.put, List.setIfInBounds_toArray, List.set_cons_succ, List.set_cons_zero]
      have hA := (H2.out.2.alloc (.cells (opA o pv) TOp)).drew
      have hsA : Same w (wr.alloc (.cells (opA o pv) TOp)).drew := (H2.out.1.alloc _).drew
      generalize hB : wr.heap.size = B at hA ⊢
      clear hB hrow H2
      refine reg_begin (fun w' => w'.rangeAt B 0 (opA o pv).toList) (by kernel_rfl) ?_
      generalize (wr.alloc (.cells (opA o pv) TOp)).drew = W at hA hsA ⊢
      have hS0 : W.rangeAt B 0 (opA o pv).toList := fun j u hu => by rw [cells_at hA.block, Nat.zero_add, ← hu]; simp
      have HA := Lib.hid (And.intro hsA hA)
      clear hsA hA
      (apply reg_take 0 rfl rfl (by decide +kernel) rfl); (intro w' h1; go_simp; rfl); exact hS0; simp only [List.setIfInBounds_toArray, List.set_cons_succ, List.set_cons_zero]
      refine reg_take 1 (v := .agg (opA o pv)) rfl rfl (by decide +kernel) rfl (fun w' h => exec_load rfl rfl (run_loadAt_mid w' B 0 TOp (opA o pv).toList _ h Try.underlying32 rfl (by rw [infoTOp o pv]; rfl))) hS0 ?_; simp only [List.setIfInBounds_toArray, List.set_cons_succ, List.set_cons_zero]
      (apply reg_take 3 rfl rfl (by decide +kernel) rfl); (intro w' h1; go_simp; rfl); exact hS0; simp only [List.setIfInBounds_toArray, List.set_cons_succ, List.set_cons_zero]
      refine reg_take 4 (v := .agg (opA o pv)) rfl rfl (by decide +kernel) rfl (fun w' h => exec_load rfl rfl (run_loadAt_mid w' B 0 TOp (opA o pv).toList _ h Try.underlying32 rfl (by rw [infoTOp o pv]; rfl))) hS0 ?_; simp only [List.setIfInBounds_toArray, List.set_cons_succ, List.set_cons_zero]
      obtain ⟨⟨D', kr⟩, hdm⟩ : ∃ r, Hid (doM D o = r) := ⟨_, Lib.hid rfl⟩
      have hdo := do_any p D (refD RT q D * (pts B (.cells (opA o pv) TOp (0, 0)) * old w)) o pv W (HA.out.2.perm (by ac_rfl)) (fun w' h => HI.out w' (refD RT q D * pts B (.cells (opA o pv) TOp (0, 0))) (h.perm (star_assoc _ _ _).symm))
      rw [hdm.out] at hdo
      refine reg_call 2 rfl rfl (by decide +kernel) rfl (f := 15) (args := #[.pointer (some ⟨p, 0, none⟩), .agg (opA o pv)]) (R := fun v w' => v = .int .i64 kr ∧ Hid (Same w w' ∧ Sat w' (pts B (.cells (opA o pv) TOp (0, 0)) * (diskAt TD TS p D' * (refD RT q D * old w))))) (by kernel_rfl) (hdo.mono fun e w' h => ⟨_, h.1, rfl, HA.out.1.trans h.2.out.1, h.2.out.2.perm (by ac_rfl)⟩) ?_
      rintro _ w4 ⟨rfl, H4⟩
      have hS4 : w4.rangeAt B 0 (opA o pv).toList := fun j u hu => by rw [cells_at H4.out.2.block, Nat.zero_add, ← hu]; simp
      refine ⟨hS4, ?_⟩
      simp only [List.setIfInBounds_toArray, List.set_cons_succ, List.set_cons_zero]
      clear hdo hS0
      have hro := rdo_any q D (diskAt TD TS p D' * (pts B (.cells (opA o pv) TOp (0, 0)) * old w)) o pv w4 (H4.out.2.perm (by ac_rfl)) (fun w' h => HI.out w' (diskAt TD TS p D' * pts B (.cells (opA o pv) TOp (0, 0))) (h.perm (star_assoc _ _ _).symm))
      rw [hdm.out] at hro
      refine reg_call 5 rfl rfl (by decide +kernel) rfl (f := 16) (args := #[.pointer (some ⟨q, 0, none⟩), .agg (opA o pv)]) (R := fun v w' => v = .int .i64 kr ∧ Hid (Same w w' ∧ Sat w' (pts B (.cells (opA o pv) TOp (0, 0)) * (diskAt TD TS p D' * (refD RT q D' * old w))))) (by kernel_rfl) (hro.mono fun e w' h => ⟨_, h.1, rfl, H4.out.1.trans h.2.out.1, h.2.out.2.perm (by ac_rfl)⟩) ?_
      rintro _ w5 ⟨rfl, H5⟩
      have hS5 : w5.rangeAt B 0 (opA o pv).toList := fun j u hu => by rw [cells_at H5.out.2.block, Nat.zero_add, ← hu]; simp
      refine ⟨hS5, ?_⟩
      simp only [List.setIfInBounds_toArray, List.set_cons_succ, List.set_cons_zero]
      clear hro hS4
      have hke : (kr != kr) = false := by simp
      (apply reg_take 6 rfl rfl (by decide +kernel) rfl); (intro w' h1; go_simp; rfl); exact hS5; simp only [List.setIfInBounds_toArray, List.set_cons_succ, List.set_cons_zero]
      (apply reg_take 7 rfl rfl (by decide +kernel) rfl); (intro w' h1; go_simp; rfl); exact hS5; simp only [List.setIfInBounds_toArray, List.set_cons_succ, List.set_cons_zero]
      (apply reg_take 8 rfl rfl (by decide +kernel) rfl); (intro w' h1; go_simp; rfl); exact hS5; simp only [List.setIfInBounds_toArray, List.set_cons_succ, List.set_cons_zero]
      (apply reg_take 9 rfl rfl (by decide +kernel) rfl); (intro w' h1; go_simp; rfl); exact hS5; simp only [List.setIfInBounds_toArray, List.set_cons_succ, List.set_cons_zero]
      refine reg_call 10 rfl rfl (by decide +kernel) rfl (f := 14) (args := #[.pointer (some ⟨p, 0, none⟩), .pointer (some ⟨q, 0, none⟩)]) (R := fun v w' => v = .bool true ∧ Hid (Same w w' ∧ Sat w' (pts B (.cells (opA o pv) TOp (0, 0)) * (diskAt TD TS p D' * (refD RT q D' * old w))))) (by kernel_rfl)
        ((lsame_any p q D' (pts B (.cells (opA o pv) TOp (0, 0)) * old w) w5 (H5.out.2.perm (by ac_rfl))).mono fun e w' h => ⟨_, h.1, rfl, H5.out.1.trans h.2.out.1, h.2.out.2.perm (by ac_rfl)⟩) ?_
      rintro _ w6 ⟨rfl, H6⟩
      have hS6 : w6.rangeAt B 0 (opA o pv).toList := fun j u hu => by rw [cells_at H6.out.2.block, Nat.zero_add, ← hu]; simp
      refine ⟨hS6, ?_⟩
      simp only [List.setIfInBounds_toArray, List.set_cons_succ, List.set_cons_zero]
      (apply reg_take 11 rfl rfl (by decide +kernel) rfl); (intro w' h1; go_simp; rfl); exact hS6; simp only [List.setIfInBounds_toArray, List.set_cons_succ, List.set_cons_zero]
      refine reg_run_last 12 (.bool false) (w6) rfl rfl (by decide +kernel) rfl (by go_simp) ?_; simp only [List.setIfInBounds_toArray, List.set_cons_succ, List.set_cons_zero]
      have hk6 := hki
      clear hS5 hS6 H4 H5 HA hke
      go_wp2
      go_roundw
      case rel =>
        refine ⟨⟨k + 1, HL.out.2, rfl, H6.out.1, ?_⟩⟩
        rw [runM_take _ HOO.out, HD.out, hdm.out]
        exact H6.out.2.right
      case measure => have := HL.out; simp only [intOf]; omega
    · obtain rfl : k = l.length := by omega
      have hltd : decide ((l.length : Int) < (l.length : Int)) = false := decide_eq_false (by omega)
      clear hlt
      go_wp2_with (go_at_call 11; refine (sanity_any _).mono ?_; rintro e w9 ⟨rfl, hb⟩; replace hb := Lib.hid hb)
      go_ret
      have hbl := H2.out.1.below_of (H2.out.2.perm (star_assoc _ _ _).symm)
      exact ⟨rfl, hbl.trans (hb.out.mono hbl.size)⟩
end Go.Proofs.Ytdeblpnkpefbcaa
