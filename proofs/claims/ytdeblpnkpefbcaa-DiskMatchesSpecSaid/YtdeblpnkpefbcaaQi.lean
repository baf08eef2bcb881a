/- solventlaw16.same. -/
import Derived.Test.YtdeblpnkpefbcaaQh
import Derived.Test.YtdeblpnkpefbcaaDz
import Derived.Test.YtdeblpnkpefbcaaLr
import Derived.Test.YtdeblpnkpefbcaaPn
namespace Go.Proofs.Ytdeblpnkpefbcaa
open Go.RowKit Go.Sl Go.ChangeMaps

theorem ints_own {w : World} {v : Value} {l : List Nat} {F : HProp} (h : Sat w (ownAt TIn 1 v l.length (l.map intV) * F)) : IntsAt w v (l.map Int.ofNat) := by
  obtain ⟨ao, cap, rfl⟩ := ownAt_slice h
  refine ⟨ao, cap, by rw [List.length_map], fun hne => ?_⟩
  obtain ⟨g, cap', e, hc⟩ := ownAt_cells h (by cases l with | nil => simp at hne | cons => simp)
  simp only [Value.slice.injEq] at e
  refine ⟨g, 0, e.1, fun j x hx => ?_⟩
  rw [Nat.mul_one, Nat.zero_add]
  refine hc j _ ?_
  rw [List.getElem?_map] at hx ⊢
  obtain ⟨y, hy, rfl⟩ := Option.map_eq_some_iff.1 hx
  rw [hy]; rfl
structure SmSt (w : World) (p q : Nat) (D : DiskM) (F : HProp) (n : Nat) (ao : Option Addr) (cap : Nat) (L : List SecV) (i : Value) (wr : World) : Prop where
  st : ∃ k : Nat, k ≤ n + 2 ∧ i = .int .i64 ((k : Int) - 1) ∧ Hid (Same w wr ∧ Sat wr (diskAt TD TS p D * refA q ao n cap L F))
theorem meas_sm {n k : Nat} (h : (k : Int) - 1 ≤ n) : ((n : Int) + 1 - (k : Int)).toNat < ((n : Int) + 1 - ((k : Int) - 1)).toNat := by omega
theorem refD_cell {w : World} {q : Nat} {D : DiskM} {F : HProp} (h : Sat w (refD RT q D * F)) : ∃ ao cap, w.cell? ⟨q, 0, none⟩ = some (.slice ao D.n cap) := by
  obtain ⟨v, L, ⟨_, hr⟩, hs⟩ := refD_iff.1 h
  obtain ⟨ao, cap, rfl⟩ := ownAt_slice hs.right
  exact ⟨ao, cap, by have := cells_at (Sat.block hs) 0; rw [hr.len] at this; exact this⟩
set_option maxRecDepth 20000 in
set_option maxHeartbeats 4000000 in
theorem lsame_any (p q : Nat) (D : DiskM) (F : HProp) (w : World) (hS : Sat w (diskAt TD TS p D * (refD RT q D * F))) :
    Calls Try.prog 14 #[.pointer (some ⟨p, 0, none⟩), .pointer (some ⟨q, 0, none⟩)] w fun e w' => e = .returned (.bool true) ∧ Hid (Same w w' ∧ Sat w' (diskAt TD TS p D * (refD RT q D * F))) := by
  have hwf := diskAt_wf hS
  have HW := Lib.hid hwf
  have hn6 : D.n ≤ 65536 := hwf.small
  obtain ⟨n, hn⟩ : ∃ n, Hid (D.n = n) := ⟨_, Lib.hid rfl⟩
  rw [hn.out] at hn6
  have hsr := hS.perm (show _ = refD RT q D * (diskAt TD TS p D * F) from by ac_rfl)
  obtain ⟨v0, L, ⟨_, hr⟩, hs0⟩ := refD_iff.1 hsr
  obtain ⟨ao, cap, rfl⟩ := ownAt_slice hs0.right
  have hLn : L.length = n := by rw [hr.len]; exact hn.out
  rw [hLn] at hs0
  have hs1 : Sat w (diskAt TD TS p D * refA q ao n cap L F) := hs0.perm (by unfold refA; rw [hLn]; ac_rfl)
  have H0 := Lib.hid hs1
  have HR := Lib.hid (And.intro hr hLn)
  have HCELL := Lib.hid (fun (w' : World) (X : HProp) (h : Sat w' (X * refA q ao n cap L F)) => show w'.cell? ⟨q, 0, none⟩ = some (.slice ao n cap) from cells_at (Sat.block (h.perm (star_comm _ _) |>.perm (by unfold refA; rw [star_assoc]))) 0)
  clear hS hwf hsr hs0 hs1 hr hLn
  go_enter Try.func14, Try.ntmps14
  go_upto_region 1 with (fail)
  have c0 := HCELL.out _ _ H0.out
  have hS0 : w.drew.cell? ⟨q, 0, none⟩ = some (.slice ao n cap) := c0
  refine reg_begin (fun w' => w'.cell? ⟨q, 0, none⟩ = some (.slice ao n cap)) (by kernel_rfl) ?_
  clear c0
  have H1 := Lib.hid (And.intro ((Same.refl w).drew) (Sat.drew H0.out))
  generalize w.drew = w1 at H1 hS0 ⊢
  (apply reg_take 0 rfl rfl (by decide +kernel) rfl); (intro w' h1; go_simp; rfl); exact hS0; simp only [List.setIfInBounds_toArray, List.set_cons_succ, List.set_cons_zero]
  (apply reg_take 1 rfl rfl (by decide +kernel) rfl); (intro w' h1; go_simp; rfl); exact hS0; simp only [List.setIfInBounds_toArray, List.set_cons_succ, List.set_cons_zero]
  (apply reg_take 2 rfl rfl (by decide +kernel) rfl); (intro w' h1; go_simp; rfl); exact hS0; simp only [List.setIfInBounds_toArray, List.set_cons_succ, List.set_cons_zero]
  (apply reg_take 3 rfl rfl (by decide +kernel) rfl); (intro w' h1; go_simp; rfl); exact hS0; simp only [List.setIfInBounds_toArray, List.set_cons_succ, List.set_cons_zero]
  (apply reg_take 5 rfl rfl (by decide +kernel) rfl); (intro w' h1; go_simp; rfl); exact hS0; simp only [List.setIfInBounds_toArray, List.set_cons_succ, List.set_cons_zero]
  (apply reg_take 6 rfl rfl (by decide +kernel) rfl); (intro w' h1; go_simp; rfl); exact hS0; simp only [List.setIfInBounds_toArray, List.set_cons_succ, List.set_cons_zero]
  (apply reg_take 7 rfl rfl (by decide +kernel) rfl); (intro w' h1; go_simp; rfl); exact hS0; simp only [List.setIfInBounds_toArray, List.set_cons_succ, List.set_cons_zero]
  (apply reg_take 8 rfl rfl (by decide +kernel) rfl); (intro w' h1; go_simp; rfl); exact hS0; simp only [List.setIfInBounds_toArray, List.set_cons_succ, List.set_cons_zero]
  (apply reg_take 9 rfl rfl (by decide +kernel) rfl); (intro w' h1; go_simp; rfl); exact hS0; simp only [List.setIfInBounds_toArray, List.set_cons_succ, List.set_cons_zero]
  refine reg_call 4 rfl rfl (by decide +kernel) rfl (f := 17) (args := #[.pointer (some ⟨p, 0, none⟩)]) (R := fun v w' => v = .int .i64 (n : Int) ∧ w1 = w') (by kernel_rfl)
    ((len_all p D _ w1 H1.out.2).mono fun e w' h => ⟨_, h.1, by rw [hn.out], h.2⟩) ?_
  rintro _ _ ⟨rfl, rfl⟩
  refine ⟨hS0, ?_⟩
  simp only [List.setIfInBounds_toArray, List.set_cons_succ, List.set_cons_zero]
  (apply reg_take 10 rfl rfl (by decide +kernel) rfl); (intro w' h1; go_simp; rfl); exact hS0; simp only [List.setIfInBounds_toArray, List.set_cons_succ, List.set_cons_zero]
  (apply reg_take 11 rfl rfl (by decide +kernel) rfl); (intro w' h1; go_simp; rfl); exact hS0; simp only [List.setIfInBounds_toArray, List.set_cons_succ, List.set_cons_zero]
  (apply reg_take 12 rfl rfl (by decide +kernel) rfl); (intro w' h1; go_simp; rfl); exact hS0; simp only [List.setIfInBounds_toArray, List.set_cons_succ, List.set_cons_zero]
  (apply reg_take 13 rfl rfl (by decide +kernel) rfl); (intro w' h1; go_simp; rfl); exact hS0; simp only [List.setIfInBounds_toArray, List.set_cons_succ, List.set_cons_zero]
  (apply reg_take 15 rfl rfl (by decide +kernel) rfl); (intro w' h1; go_simp; rfl); exact hS0; simp only [List.setIfInBounds_toArray, List.set_cons_succ, List.set_cons_zero]
  refine reg_call 14 rfl rfl (by decide +kernel) rfl (f := 24) (args := #[.pointer (some ⟨p, 0, none⟩)]) (R := fun v w' => Hid (Same w w' ∧ Sat w' (ownAt TIn 1 v D.pending.length (D.pending.map intV) * (diskAt TD TS p D * refA q ao n cap L F)))) (by kernel_rfl)
    ((pending_any p D _ w1 H1.out.2).mono fun e w' h => by
      obtain ⟨v, rfl, hb, hown, _⟩ := h
      refine ⟨_, rfl, H1.out.1.below hb, ?_⟩
      have h2 := Sat.ownRow H1.out.2 (fun k hk => hb.block k hk) (Nat.le_refl _) hown
      rw [List.map_map] at h2
      exact h2) ?_
  rintro va w2 H2
  have c2 := HCELL.out w2 _ (H2.out.2.perm (star_assoc _ _ _).symm)
  refine ⟨c2, ?_⟩
  simp only [List.setIfInBounds_toArray, List.set_cons_succ, List.set_cons_zero]
  refine reg_call 16 rfl rfl (by decide +kernel) rfl (f := 33) (args := #[.pointer (some ⟨q, 0, none⟩)]) (R := fun v w' => Hid (Same w w' ∧ Sat w' (ownAt TIn 1 v D.pending.length (D.pending.map intV) * (ownAt TIn 1 va D.pending.length (D.pending.map intV) * (diskAt TD TS p D * refA q ao n cap L F))))) (by kernel_rfl)
    ((rpendingA_any q D (ownAt TIn 1 va D.pending.length (D.pending.map intV) * (diskAt TD TS p D * F)) ao n cap L w2 HW.out HR.out.1 HR.out.2 (H2.out.2.perm (by unfold refA; ac_rfl))).mono fun e w' h => by
      obtain ⟨v, rfl, h2⟩ := h
      exact ⟨_, rfl, H2.out.1.trans h2.out.1, h2.out.2.perm (by unfold refA; ac_rfl)⟩) ?_
  rintro vb w3 H3
  have c3 := HCELL.out w3 _ (H3.out.2.perm (show _ = (ownAt TIn 1 vb D.pending.length (D.pending.map intV) * (ownAt TIn 1 va D.pending.length (D.pending.map intV) * diskAt TD TS p D)) * refA q ao n cap L F from by ac_rfl))
  refine ⟨c3, ?_⟩
  simp only [List.setIfInBounds_toArray, List.set_cons_succ, List.set_cons_zero]
  refine reg_call 17 rfl rfl (by decide +kernel) rfl (f := 32) (args := #[va, vb]) (R := fun v w' => v = .bool true ∧ Hid (Same w w' ∧ Sat w' (diskAt TD TS p D * refA q ao n cap L F))) (by kernel_rfl)
    ((same_any va vb (D.pending.map Int.ofNat) (D.pending.map Int.ofNat) w3 (ints_own H3.out.2.right) (ints_own H3.out.2) (by rw [List.length_map]; have := penK_le D D.n; have : D.pending.length ≤ D.n := this; have := HW.out.small; omega)).mono fun e w' h => ⟨_, h.1, by simp, H3.out.1.below h.2, (H3.out.2.below h.2).right.right⟩) ?_
  rintro _ w4 ⟨rfl, H4⟩
  refine ⟨HCELL.out _ _ H4.out.2, ?_⟩
  simp only [List.setIfInBounds_toArray, List.set_cons_succ, List.set_cons_zero]
  have hS4 := HCELL.out _ _ H4.out.2
  (apply reg_take 18 rfl rfl (by decide +kernel) rfl); (intro w' h1; go_simp; rfl); exact hS4; simp only [List.setIfInBounds_toArray, List.set_cons_succ, List.set_cons_zero]
  refine reg_run_last 19 (.bool false) (w4) rfl rfl (by decide +kernel) rfl (by go_simp) ?_; simp only [List.setIfInBounds_toArray, List.set_cons_succ, List.set_cons_zero]
  clear hS0 c2 c3 H1 H2 H3 H0
  go_upto_region 4 with (fail)
  go_loopw [5] (fun i wr => SmSt w p q D F n ao cap L i wr) (fun i _ => ((n : Int) + 1 - intOf i).toNat)
  case atStart => exact ⟨0, by omega, rfl, H4.out⟩
  case round =>
    clear H4 hS4
    obtain ⟨k, hk, rfl, H5⟩ := hrel.st
    clear hrel
    have c5 := HCELL.out _ _ H5.out.2
    by_cases hlt : (k : Int) - 1 ≤ n
    · have hltd : decide ((k : Int) - 1 ≤ (n : Int)) = true := decide_eq_true hlt
      have hw1 : wrap64 (k : Int) = (k : Int) := by unfold wrap64; omega
      obtain ⟨⟨s, e1⟩, hrd⟩ : ∃ r, Hid (D.read ((k : Int) - 1) = r) := ⟨_, Lib.hid rfl⟩
      have hq2 : (e1 == e1) = true := by simp
      have HA := Lib.hid (fun (w' : World) (h : Sat w' (diskAt TD TS p D * refA q ao n cap L F)) => read_any p D _ ((k : Int) - 1) w' h)
      have HB := Lib.hid (fun (w' : World) (h : Sat w' (diskAt TD TS p D * refA q ao n cap L F)) => rread_any q D (diskAt TD TS p D * F) ((k : Int) - 1) w' (refA_refD HW.out HR.out.1 (h.perm (by unfold refA; ac_rfl))))
      rw [hrd.out] at HA HB
      obtain ⟨X, hX⟩ : ∃ X, strW s = X := ⟨_, rfl⟩
      rw [show (ByteArray.mk (s, e1).1.toArray) = X from hX] at HA
      rw [show strW (s, e1).1 = X from hX] at HB
      have hq1 : (X.data == X.data) = true := by simp
      have HL := Lib.hid (And.intro hlt hk)
      clear hlt hk
      go_upto_region 7 with (go_at_call 18; refine (HA.out _ H5.out.2).mono ?_; rintro e w6 ⟨rfl, hb⟩; replace H5 := Lib.hid (And.intro (H5.out.1.below hb) (H5.out.2.below hb)); clear hb c5)
      have c5 := HCELL.out _ _ H5.out.2
      go_wp2_with (go_at_call 34; refine (HB.out _ H5.out.2).mono ?_; rintro e w7 ⟨rfl, rfl⟩)
      go_roundw
      case rel => exact ⟨⟨k + 1, by have := HL.out; omega, congrArg (Value.int .i64) (by omega), H5.out⟩⟩
      case measure => rw [hw1]; exact meas_sm HL.out.1
    · have hltd : decide ((k : Int) - 1 ≤ (n : Int)) = false := decide_eq_false hlt
      clear hlt hk
      go_wp2
      go_ret
      exact ⟨rfl, H5.out.1, (refA_refD HW.out HR.out.1 (H5.out.2.perm (show _ = refA q ao n cap L (diskAt TD TS p D * F) from by unfold refA; ac_rfl))).perm (by ac_rfl)⟩
end Go.Proofs.Ytdeblpnkpefbcaa
