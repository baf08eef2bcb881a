import Derived.Test.YtogmkbhbmmgidaaGreatP15
import Derived.Test.YtogmkbhbmmgidaaGreatP20
/- Part 21 of a proof; the last part says what is proved. -/
section
namespace Go.Proofs.YtogmkbhbmmgidaaGreat
open Go.RowKit Go.Sl Go.ChangeMaps
theorem rsh_cfg {w : World} {p : Nat} {S : ShelfM} {F : HProp} (h : Sat w (rshAt RS p S * F)) :
    (w.cell? ⟨p, 0, none⟩ = some (.int .i64 S.cfg.disks) ∧ w.cell? ⟨p, 1, none⟩ = some (.int .i64 S.cfg.racks) ∧ w.cell? ⟨p, 2, none⟩ = some (.int .i64 S.cfg.rows) ∧ w.cell? ⟨p, 3, none⟩ = some (.int .i64 S.cfg.spare) ∧ w.cell? ⟨p, 4, none⟩ = some (.int .i64 S.cfg.log) ∧ w.cell? ⟨p, 5, none⟩ = some (.int .i64 S.cfg.image)) ∧ w.cell? ⟨p, 9, none⟩ = some (.bool (!S.off)) ∧ p < w.heap.size := by
  obtain ⟨vb, vs, vi, ps, qs, _, hs⟩ := rshAt_iff.1 h
  obtain ⟨⟨_, _, _, q9, _⟩, hp, hra⟩ := rs_cells hs
  have c0 := hra 0 _ rfl
  have c1 := hra 1 _ rfl
  have c2 := hra 2 _ rfl
  have c3 := hra 3 _ rfl
  have c4 := hra 4 _ rfl
  have c5 := hra 5 _ rfl
  simp only [Nat.zero_add] at c0 c1 c2 c3 c4 c5
  exact ⟨⟨c0, c1, c2, c3, c4, c5⟩, q9, hp⟩
theorem rsh_bay {p : Nat} {S : ShelfM} {F : HProp} {w : World} (hS : Sat w (rshAt RS p S * F)) {k : Nat} (hk : k < S.bays.length) : ∃ g capb gs caps q R,
    (w.cell? ⟨p, 6, none⟩ = some (.slice (some ⟨g, 0, none⟩) S.bays.length capb) ∧ w.cell? ⟨p, 7, none⟩ = some (.slice (some ⟨gs, 0, none⟩) S.bays.length caps)) ∧
    (w.cell? ⟨g, k, none⟩ = some (.pointer (some ⟨q, 0, none⟩)) ∧ w.cell? ⟨gs, k, none⟩ = some (.int .i64 (S.state k))) ∧ Sat w (refD RT q (S.disk k) * R) := by
  obtain ⟨vb, vs, vi, ps, qs, ⟨_, h1, h2⟩, hs⟩ := rshAt_iff.1 hS
  obtain ⟨⟨q6, q7, _, _, _⟩, _, _⟩ := rs_cells hs
  obtain ⟨g, capb, rfl, hb⟩ := ownAt_cells hs.right (by omega)
  obtain ⟨gs, caps, rfl, hst⟩ := ownAt_cells hs.right.right (by omega)
  have hbay := ShelfM.bay_of (S := S) (d := (k : Int)) (by omega) (by omega)
  rw [Int.toNat_natCast] at hbay
  obtain ⟨q, hq⟩ : ∃ q, ps[k]? = some q := ⟨_, List.getElem?_eq_getElem (by omega)⟩
  obtain ⟨R, hR⟩ := refsT_split (T := RT) ps (S.bays.map BayM.disk) k (by omega) (by simpa using hk)
  have hd : (S.bays.map BayM.disk)[k]? = some (S.disk k) := by rw [List.getElem?_map, hbay]; rfl
  have e := hR q (S.disk k)
  rw [set_self hq, set_self hd] at e
  refine ⟨g, capb, gs, caps, q, R * (refsT RT qs S.images * F), ⟨q6, q7⟩, ⟨hb k (ptrV q) (by rw [List.getElem?_map, hq]; rfl), hst k _ (by rw [List.getElem?_map, hbay]; rfl)⟩, ?_⟩
  have h := hs.right.right.right.right
  rw [show RS.rf = RT from rfl, e] at h
  rw [← star_assoc] at h
  exact h.perm (show _ = refD RT q (S.disk k) * (R * (refsT RT qs S.images * F)) from by ac_rfl)
set_option maxHeartbeats 400000 in
theorem rstate_any (p : Nat) (S : ShelfM) (F : HProp) (d : Int) (w : World) (hS : Sat w (rshAt RS p S * F)) :
    Calls Tryz.prog 53 #[.pointer (some ⟨p, 0, none⟩), .int .i64 d] w fun e w' => e = .returned (.int .i64 (S.state d)) ∧ w = w' := by
  have hwf := rshAt_wf hS
  by_cases h : 0 ≤ d ∧ d < (S.bays.length : Int)
  · obtain ⟨k, rfl⟩ := Int.eq_ofNat_of_zero_le h.1
    obtain ⟨g, capb, gs, caps, q, R, ⟨_, c7⟩, ⟨_, cs⟩, _⟩ := rsh_bay hS (k := k) (by omega)
    have h2 := h.2
    obtain ⟨n, hn⟩ : ∃ n, S.bays.length = n := ⟨_, rfl⟩
    rw [hn] at c7 h2
    clear hS hwf h hn
    go_enter Tryz.func53, Tryz.ntmps53
    go_wp2
    go_ret
    exact ⟨rfl, rfl⟩
  · have h0 := (ShelfM.state_pos hwf).2 h
    rw [h0]
    obtain ⟨vb, vs, vi, ps, qs, ⟨_, h1, h2⟩, hs⟩ := rshAt_iff.1 hS
    obtain ⟨⟨_, q7, _, _, _⟩, _, _⟩ := rs_cells hs
    obtain ⟨ao, cap, rfl⟩ := ownAt_slice hs.right.right
    obtain ⟨n, hn⟩ : ∃ n, S.bays.length = n := ⟨_, rfl⟩
    rw [hn] at q7 h
    clear hs hS hwf h0 hn h1 h2
    by_cases hd : d < 0
    · have hd' : decide (d < 0) = true := decide_eq_true hd
      clear hd h
      go_enter Tryz.func53, Tryz.ntmps53
      go_wp2
      go_ret
      exact ⟨rfl, rfl⟩
    · have hd' : decide (d < 0) = false := decide_eq_false hd
      have hd2 : decide ((n : Int) ≤ d) = true := decide_eq_true (by omega)
      clear hd h
      go_enter Tryz.func53, Tryz.ntmps53
      go_wp2
      go_ret
      exact ⟨rfl, rfl⟩
set_option maxHeartbeats 400000 in
theorem rup_any (p : Nat) (S : ShelfM) (F : HProp) (w : World) (hS : Sat w (rshAt RS p S * F)) :
    Calls Tryz.prog 52 #[.pointer (some ⟨p, 0, none⟩)] w fun e w' => e = .returned (.bool (!S.off)) ∧ w = w' := by
  obtain ⟨_, c9, _⟩ := rsh_cfg hS
  generalize (!S.off) = b at c9 ⊢
  clear hS
  go_enter Tryz.func52, Tryz.ntmps52
  go_wp2
  go_ret
  exact ⟨rfl, rfl⟩
set_option maxHeartbeats 400000 in
theorem rconfig_any (p : Nat) (S : ShelfM) (F : HProp) (w : World) (hS : Sat w (rshAt RS p S * F)) :
    Calls Tryz.prog 50 #[.pointer (some ⟨p, 0, none⟩)] w fun e w' => e = .returned (.agg (cfgA S.cfg)) ∧ Below w.heap.size w w' := by
  obtain ⟨⟨c0, c1, c2, c3, c4, c5⟩, _, hp⟩ := rsh_cfg hS
  generalize S.cfg = c at *
  clear hS
  go_enter Tryz.func50, Tryz.ntmps50
  go_wp2
  refine bodyPost_ret (v := .agg (cfgA c)) (by simp [results, Tryz.results50, go_sem]) rfl ⟨rfl, ?_⟩
  exact (Below.refl _ _).alloc (Nat.le_refl _) _
def numM (S : ShelfM) (a : PlaceM) : Int := if S.number a < 0 then 0 else S.number a
structure RnbSt (W : World) (ix : Int) (c : CfgM) (m : Nat) (n i : Value) (wr : World) : Prop where
  st : wr = W ∧ ∃ k : Nat, k ≤ m ∧ i = .int .i64 k ∧ n = .int .i64 (ix + psum c k)
theorem szN_psum (c : CfgM) {k : Nat} (h : k < 3) : psum c (k + 1) = psum c k + szN c k := by
  match k, h with
  | 0, _ => show c.log = 0 + c.log; omega
  | 1, _ => rfl
  | 2, _ => rfl
theorem psum_le {c : CfgM} (h : c.WF) {k : Nat} (hk : k ≤ 3) : 0 ≤ psum c k ∧ psum c k ≤ 65536 := by
  have := h.log; have := h.image; have := h.rows; have h5 := h.small
  unfold CfgM.sectors at h5
  match k, hk with
  | 0, _ => show 0 ≤ (0 : Int) ∧ (0 : Int) ≤ 65536; omega
  | 1, _ => show 0 ≤ c.log ∧ c.log ≤ 65536; omega
  | 2, _ => show 0 ≤ c.log + c.image ∧ c.log + c.image ≤ 65536; omega
  | 3, _ => show 0 ≤ c.log + c.image + c.image ∧ c.log + c.image + c.image ≤ 65536; omega
theorem size_szN17 (c : CfgM) {m : Nat} (h : m < 4) : c.size ((m : Int) + 1) = szN c m ∧ c.base ((m : Int) + 1) = psum c m := by
  match m, h with
  | 0, _ => exact ⟨rfl, rfl⟩
  | 1, _ => exact ⟨rfl, rfl⟩
  | 2, _ => exact ⟨rfl, rfl⟩
  | 3, _ => exact ⟨rfl, rfl⟩
theorem below_drewN {B : Nat} {a w : World} (h : Below B a w) (n : Nat) : Below B a (w.drewN n) := ⟨h.os, h.tape, h.output, h.size, h.block⟩
structure NumW (w W : World) (B g : Nat) (d ar ix : Int) (c : CfgM) (p : Nat) : Prop where
  below : Below w.heap.size w W
  box : W.cell? ⟨B, 0, none⟩ = some (.int .i64 d) ∧ W.cell? ⟨B, 1, none⟩ = some (.int .i64 ar) ∧ W.cell? ⟨B, 2, none⟩ = some (.int .i64 ix)
  row : ∀ j, j < 4 → W.cell? ⟨g, j, none⟩ = some (.int .i64 (szN c j))
  cfg : W.cell? ⟨p, 0, none⟩ = some (.int .i64 c.disks)
set_option maxRecDepth 40000 in
set_option maxHeartbeats 8000000 in
theorem rnumber_any (p : Nat) (S : ShelfM) (F : HProp) (a : PlaceM) (w : World) (hS : Sat w (rshAt RS p S * F)) :
    Calls Tryz.prog 81 #[.pointer (some ⟨p, 0, none⟩), .agg (plA a)] w fun e w' => e = .returned (.tuple #[.int .i64 (numM S a), .bool (decide (0 ≤ S.number a))]) ∧ Below w.heap.size w w' := by
  have hwf := rshAt_wf hS
  obtain ⟨d, ar, ix⟩ := a
  have HWF := Lib.hid hwf
  have hlen := hwf.bays
  have hdk := hwf.cfg.disks
  have hnum : S.number ⟨d, ar, ix⟩ = if S.state d = 0 ∨ ar < 1 ∨ 4 < ar ∨ ix < 0 ∨ S.cfg.size ar ≤ ix then -1 else ix + S.cfg.base ar := rfl
  have hst := ShelfM.state_pos hwf (d := d)
  have hst2 : S.state d = 0 ↔ ¬ (0 ≤ d ∧ d < S.cfg.disks) := by rw [hst]; constructor <;> intro h1 h2 <;> apply h1 <;> omega
  have hA := hS.alloc (.cells (plA ⟨d, ar, ix⟩) TPl)
  have HA := Lib.hid hA
  have HST := Lib.hid hst2
  have HNUM := Lib.hid hnum
  obtain ⟨nu, hnu⟩ : ∃ nu, Hid (S.number ⟨d, ar, ix⟩ = nu) := ⟨_, Lib.hid rfl⟩
  obtain ⟨nv, hnv⟩ : ∃ nv, Hid (numM S ⟨d, ar, ix⟩ = nv) := ⟨_, Lib.hid rfl⟩
  obtain ⟨nb, hnb⟩ : ∃ nb, Hid (decide (0 ≤ nu) = nb) := ⟨_, Lib.hid rfl⟩
  rw [hnu.out, hnv.out, hnb.out]
  have HC := Lib.hid (And.intro hlen hdk)
  obtain ⟨c, hc⟩ : ∃ c, S.cfg = c := ⟨_, rfl⟩
  have HCC := Lib.hid hc
  have hL : c.log = szN c 0 ∧ c.image = szN c 1 ∧ c.rows = szN c 3 := ⟨rfl, rfl, rfl⟩
  clear hS hA hwf hlen hdk hnum hst hst2 hc hL
  go_enter Tryz.func81, Tryz.ntmps81
  go_upto_region 1 with (fail)
  have hbl : Below w.heap.size w (w.alloc (.cells (plA ⟨d, ar, ix⟩) TPl)).drew := below_drewN ((Below.refl _ _).alloc (Nat.le_refl _) _) 1
  replace HA := Lib.hid (And.intro hbl HA.out.drew)
  clear hbl
  unfold plA at HA
  refine reg_begin (fun w' => w'.cell? ⟨p, 4, none⟩ = some (.int .i64 c.log) ∧ w'.cell? ⟨p, 5, none⟩ = some (.int .i64 c.image) ∧ w'.cell? ⟨p, 2, none⟩ = some (.int .i64 c.rows)) (by kernel_rfl) ?_
  generalize hw1 : (w.alloc _).drew = W1 at HA ⊢
  clear hw1
  obtain ⟨⟨c0, c1, c2, c3, c4, c5⟩, _, hp⟩ := rsh_cfg HA.out.2.right
  rw [HCC.out] at c0 c2 c4 c5
  have hS0 : W1.cell? ⟨p, 4, none⟩ = some (.int .i64 c.log) ∧ W1.cell? ⟨p, 5, none⟩ = some (.int .i64 c.image) ∧ W1.cell? ⟨p, 2, none⟩ = some (.int .i64 c.rows) := ⟨c4, c5, c2⟩
  clear c0 c1 c2 c3 c4 c5 hp
  (apply reg_take 0 rfl rfl (by decide +kernel) rfl); (rintro w' ⟨h1, h2, h3⟩; go_simp; rfl); exact hS0; simp only [List.setIfInBounds_toArray, List.set_cons_succ, List.set_cons_zero]
  (apply reg_take 1 rfl rfl (by decide +kernel) rfl); (rintro w' ⟨h1, h2, h3⟩; go_simp; rfl); exact hS0; simp only [List.setIfInBounds_toArray, List.set_cons_succ, List.set_cons_zero]
  (apply reg_take 2 rfl rfl (by decide +kernel) rfl); (rintro w' ⟨h1, h2, h3⟩; go_simp; rfl); exact hS0; simp only [List.setIfInBounds_toArray, List.set_cons_succ, List.set_cons_zero]
  (apply reg_take 3 rfl rfl (by decide +kernel) rfl); (rintro w' ⟨h1, h2, h3⟩; go_simp; rfl); exact hS0; simp only [List.setIfInBounds_toArray, List.set_cons_succ, List.set_cons_zero]
  (apply reg_take 4 rfl rfl (by decide +kernel) rfl); (rintro w' ⟨h1, h2, h3⟩; go_simp; rfl); exact hS0; simp only [List.setIfInBounds_toArray, List.set_cons_succ, List.set_cons_zero]
  (apply reg_take 5 rfl rfl (by decide +kernel) rfl); (rintro w' ⟨h1, h2, h3⟩; go_simp; rfl); exact hS0; simp only [List.setIfInBounds_toArray, List.set_cons_succ, List.set_cons_zero]
  (apply reg_take 6 rfl rfl (by decide +kernel) rfl); (rintro w' ⟨h1, h2, h3⟩; go_simp; rfl); exact hS0; simp only [List.setIfInBounds_toArray, List.set_cons_succ, List.set_cons_zero]
  (apply reg_take 7 rfl rfl (by decide +kernel) rfl); (rintro w' ⟨h1, h2, h3⟩; go_simp; rfl); exact hS0; simp only [List.setIfInBounds_toArray, List.set_cons_succ, List.set_cons_zero]
  (apply reg_take 8 rfl rfl (by decide +kernel) rfl); (rintro w' ⟨h1, h2, h3⟩; go_simp; rfl); exact hS0; simp only [List.setIfInBounds_toArray, List.set_cons_succ, List.set_cons_zero]
  (apply reg_take 9 rfl rfl (by decide +kernel) rfl); (rintro w' ⟨h1, h2, h3⟩; go_simp; rfl); exact hS0; simp only [List.setIfInBounds_toArray, List.set_cons_succ, List.set_cons_zero]
  (apply reg_take 10 rfl rfl (by decide +kernel) rfl); (rintro w' ⟨h1, h2, h3⟩; go_simp; rfl); exact hS0; simp only [List.setIfInBounds_toArray, List.set_cons_succ, List.set_cons_zero]
  (apply reg_take 11 rfl rfl (by decide +kernel) rfl); (rintro w' ⟨h1, h2, h3⟩; go_simp; rfl); exact hS0; simp only [List.setIfInBounds_toArray, List.set_cons_succ, List.set_cons_zero]
  (apply reg_take 12 rfl rfl (by decide +kernel) rfl); (rintro w' ⟨h1, h2, h3⟩; go_simp; rfl); exact hS0; simp only [List.setIfInBounds_toArray, List.set_cons_succ, List.set_cons_zero]
  (apply reg_take 13 rfl rfl (by decide +kernel) rfl); (rintro w' ⟨h1, h2, h3⟩; go_simp; rfl); exact hS0; simp only [List.setIfInBounds_toArray, List.set_cons_succ, List.set_cons_zero]
  (apply reg_take 14 rfl rfl (by decide +kernel) rfl); (rintro w' ⟨h1, h2, h3⟩; go_simp; rfl); exact hS0; simp only [List.setIfInBounds_toArray, List.set_cons_succ, List.set_cons_zero]
  (apply reg_take 15 rfl rfl (by decide +kernel) rfl); (rintro w' ⟨h1, h2, h3⟩; go_simp; rfl); exact hS0; simp only [List.setIfInBounds_toArray, List.set_cons_succ, List.set_cons_zero]
  (apply reg_take 16 rfl rfl (by decide +kernel) rfl); (rintro w' ⟨h1, h2, h3⟩; go_simp; rfl); exact hS0; simp only [List.setIfInBounds_toArray, List.set_cons_succ, List.set_cons_zero]
  (apply reg_take 17 rfl rfl (by decide +kernel) rfl); (rintro w' ⟨h1, h2, h3⟩; go_simp; rfl); exact hS0; simp only [List.setIfInBounds_toArray, List.set_cons_succ, List.set_cons_zero]
  (apply reg_take 18 rfl rfl (by decide +kernel) rfl); (rintro w' ⟨h1, h2, h3⟩; go_simp; rfl); exact hS0; simp only [List.setIfInBounds_toArray, List.set_cons_succ, List.set_cons_zero]
  (apply reg_take 19 rfl rfl (by decide +kernel) rfl); (rintro w' ⟨h1, h2, h3⟩; go_simp; rfl); exact hS0; simp only [List.setIfInBounds_toArray, List.set_cons_succ, List.set_cons_zero]
  have hA2 := HA.out.2.alloc (.cells (szA c) 3)
  have HN0 := Lib.hid (show NumW w (W1.alloc (.cells (szA c) 3)) w.heap.size W1.heap.size d ar ix c p from ⟨HA.out.1.alloc HA.out.1.size _, ⟨cells_at hA2.right.block 0, cells_at hA2.right.block 1, cells_at hA2.right.block 2⟩, fun j hj => by rw [cells_at hA2.block]; exact szA_at c hj, by have := (rsh_cfg hA2.right.right).1.1; rwa [HCC.out] at this⟩)
  obtain ⟨⟨c0, c1, c2, c3, c4, c5⟩, _, hp⟩ := rsh_cfg hA2.right.right
  rw [HCC.out] at c0 c2 c4 c5
  have hS1 : (W1.alloc (.cells (szA c) 3)).cell? ⟨p, 4, none⟩ = some (.int .i64 c.log) ∧ (W1.alloc (.cells (szA c) 3)).cell? ⟨p, 5, none⟩ = some (.int .i64 c.image) ∧ (W1.alloc (.cells (szA c) 3)).cell? ⟨p, 2, none⟩ = some (.int .i64 c.rows) := ⟨c4, c5, c2⟩
  clear c0 c1 c2 c3 c4 c5 hp hA2
  unfold szA at hS1 HN0
  refine reg_run 20 (.slice (some ⟨W1.heap.size, 0, none⟩) 4 4) (W1.alloc (.cells #[.int .i64 c.log, .int .i64 c.image, .int .i64 c.image, .int .i64 c.rows] 3)) rfl rfl (by decide +kernel) rfl (by go_simp) (hS1) ?_; simp only [List.setIfInBounds_toArray, List.set_cons_succ, List.set_cons_zero]
  clear hS0
  generalize W1.alloc _ = W at HN0 hS1 ⊢
  generalize W1.heap.size = g at HN0 ⊢
  generalize hB : w.heap.size = B at HN0 ⊢
  refine reg_run_last 21 (.slice (some ⟨g, 0, none⟩) 4 4) (W) rfl rfl (by decide +kernel) rfl (by go_simp) ?_; simp only [List.setIfInBounds_toArray, List.set_cons_succ, List.set_cons_zero]
  clear hS1 HA
  go_upto_region 2 with (fail)
  obtain ⟨b0, b1, b2⟩ := HN0.out.box
  have r0 := HN0.out.cfg
  by_cases k0 : d < 0
  case pos =>
    have d0 : decide (d < 0) = true := decide_eq_true k0
    have hneg : S.number ⟨d, ar, ix⟩ = -1 := by rw [HNUM.out]; exact if_pos (.inl (HST.out.2 (by omega)))
    have e1 := hnb.out
    have e2 := hnv.out
    rw [← hnu.out, hneg] at e1
    unfold numM at e2
    rw [hneg] at e2
    obtain rfl : nb = false := by rw [← e1]; rfl
    obtain rfl : nv = 0 := by rw [← e2]; rfl
    clear e1 e2 hneg
    clear k0
    go_quiet (fail)
    go_wp2
    go_ret2
    exact ⟨rfl, below_drewN HN0.out.below _⟩
  have d0 : decide (d < 0) = false := decide_eq_false k0
  by_cases k1 : c.disks ≤ d
  case pos =>
    have d1 : decide (c.disks ≤ d) = true := decide_eq_true k1
    have hneg : S.number ⟨d, ar, ix⟩ = -1 := by rw [HNUM.out]; exact if_pos (.inl (HST.out.2 (by rw [HCC.out]; omega)))
    have e1 := hnb.out
    have e2 := hnv.out
    rw [← hnu.out, hneg] at e1
    unfold numM at e2
    rw [hneg] at e2
    obtain rfl : nb = false := by rw [← e1]; rfl
    obtain rfl : nv = 0 := by rw [← e2]; rfl
    clear e1 e2 hneg
    clear k0 k1
    go_quiet (fail)
    go_wp2
    go_ret2
    exact ⟨rfl, below_drewN HN0.out.below _⟩
  have d1 : decide (c.disks ≤ d) = false := decide_eq_false k1
  by_cases k2 : ar < 1
  case pos =>
    have d2 : decide (ar < 1) = true := decide_eq_true k2
    have hneg : S.number ⟨d, ar, ix⟩ = -1 := by rw [HNUM.out]; exact if_pos (.inr (.inl k2))
    have e1 := hnb.out
    have e2 := hnv.out
    rw [← hnu.out, hneg] at e1
    unfold numM at e2
    rw [hneg] at e2
    obtain rfl : nb = false := by rw [← e1]; rfl
    obtain rfl : nv = 0 := by rw [← e2]; rfl
    clear e1 e2 hneg
    clear k0 k1 k2
    go_quiet (fail)
    go_wp2
    go_ret2
    exact ⟨rfl, below_drewN HN0.out.below _⟩
  have d2 : decide (ar < 1) = false := decide_eq_false k2
  by_cases k3 : 4 < ar
  case pos =>
    have d3 : decide (4 < ar) = true := decide_eq_true k3
    have hneg : S.number ⟨d, ar, ix⟩ = -1 := by rw [HNUM.out]; exact if_pos (.inr (.inr (.inl k3)))
    have e1 := hnb.out
    have e2 := hnv.out
    rw [← hnu.out, hneg] at e1
    unfold numM at e2
    rw [hneg] at e2
    obtain rfl : nb = false := by rw [← e1]; rfl
    obtain rfl : nv = 0 := by rw [← e2]; rfl
    clear e1 e2 hneg
    clear k0 k1 k2 k3
    go_quiet (fail)
    go_wp2
    go_ret2
    exact ⟨rfl, below_drewN HN0.out.below _⟩
  have d3 : decide (4 < ar) = false := decide_eq_false k3
  by_cases k4 : ix < 0
  case pos =>
    have d4 : decide (ix < 0) = true := decide_eq_true k4
    have hneg : S.number ⟨d, ar, ix⟩ = -1 := by rw [HNUM.out]; exact if_pos (.inr (.inr (.inr (.inl k4))))
    have e1 := hnb.out
    have e2 := hnv.out
    rw [← hnu.out, hneg] at e1
    unfold numM at e2
    rw [hneg] at e2
    obtain rfl : nb = false := by rw [← e1]; rfl
    obtain rfl : nv = 0 := by rw [← e2]; rfl
    clear e1 e2 hneg
    clear k0 k1 k2 k3 k4
    go_quiet (fail)
    go_wp2
    go_ret2
    exact ⟨rfl, below_drewN HN0.out.below _⟩
  have d4 : decide (ix < 0) = false := decide_eq_false k4
  obtain ⟨m, rfl⟩ : ∃ m : Nat, ar = (m : Int) + 1 := ⟨(ar - 1).toNat, by omega⟩
  have hm : m < 4 := by omega
  have hwm : IntKind.i64.wrap ((m : Int) + 1 - 1) = (m : Int) := by rw [IntWalk.i64_in _ (by omega)]; omega
  have hm0 : (0 : Int) ≤ (m : Int) := by omega
  have hm4 : (m : Int) < 4 := by omega
  have cm := HN0.out.row m hm
  obtain ⟨hsz, hbs⟩ := size_szN17 c hm
  have HSZ := Lib.hid (And.intro hsz hbs)
  clear hsz hbs
  by_cases k5 : szN c m ≤ ix
  case pos =>
    have d5 : decide (szN c m ≤ ix) = true := decide_eq_true k5
    have hneg : S.number ⟨d, (m : Int) + 1, ix⟩ = -1 := by rw [HNUM.out]; exact if_pos (.inr (.inr (.inr (.inr (by rw [HCC.out, HSZ.out.1]; exact k5)))))
    have e1 := hnb.out
    have e2 := hnv.out
    rw [← hnu.out, hneg] at e1
    unfold numM at e2
    rw [hneg] at e2
    obtain rfl : nb = false := by rw [← e1]; rfl
    obtain rfl : nv = 0 := by rw [← e2]; rfl
    clear e1 e2 hneg
    clear k0 k1 k2 k3 k4 k5
    go_quiet (fail)
    go_wp2
    go_ret2
    exact ⟨rfl, below_drewN HN0.out.below _⟩
  have d5 : decide (szN c m ≤ ix) = false := decide_eq_false k5
  have hpos : S.number ⟨d, (m : Int) + 1, ix⟩ = ix + psum c m := by
    rw [HNUM.out, HCC.out, HSZ.out.1, HSZ.out.2]
    refine if_neg ?_
    have := HST.out
    rw [HCC.out] at this
    have hs0 : S.state d ≠ 0 := fun h => (this.1 h) ⟨by omega, by omega⟩
    omega
  have hps := psum_le (c := c) (by rw [← HCC.out]; exact HWF.out.cfg) (k := m) (by omega)
  have e1 := hnb.out
  have e2 := hnv.out
  rw [← hnu.out, hpos] at e1
  unfold numM at e2
  rw [hpos, if_neg (by omega)] at e2
  obtain rfl : nb = true := by rw [← e1]; exact decide_eq_true (by omega)
  subst e2
  have HIX := Lib.hid (show 0 ≤ ix ∧ ix ≤ 65536 ∧ szN c m ≤ 65536 from by
    have h := HWF.out.cfg
    rw [HCC.out] at h
    have := h.log; have := h.image; have := h.rows
    have : szN c m ≤ 65536 := by unfold szN; split <;> (try split) <;> (try split) <;> omega
    omega)
  clear e1 hpos hps k0 k1 k2 k3 k4 k5
  go_quiet (fail)
  go_upto_region 6 with (fail)
  generalize hW2 : W.drewN _ = W2
  replace HN0 := Lib.hid (show NumW w W2 B g d ((m : Int) + 1) ix c p from by rw [← hW2]; exact ⟨below_drewN HN0.out.below _, HN0.out.box, HN0.out.row, HN0.out.cfg⟩)
  clear hW2
  obtain ⟨b0, b1, b2⟩ := HN0.out.box
  have r0 := HN0.out.cfg
  clear d0 d1 d2 d3 d4 d5 cm r0 b0
  go_loopw [7, 8] (fun n i wr => RnbSt W2 ix c m n i wr) (fun _ i _ => m - (intOf i).toNat)
  case atStart => exact ⟨rfl, 0, by omega, rfl, by show _ = Value.int .i64 (ix + 0); rw [Int.add_zero]⟩
  case round =>
    obtain ⟨rfl, k, hk, rfl, rfl⟩ := hrel.st
    clear hrel
    by_cases hlt : k < m
    · have hltd : decide ((k : Int) < (m : Int)) = true := decide_eq_true (by omega)
      have hk0 : (0 : Int) ≤ (k : Int) := by omega
      have hk4 : (k : Int) < 4 := by omega
      have ck := HN0.out.row k (by omega)
      have hw1 : IntKind.i64.wrap ((k : Int) + 1) = (k : Int) + 1 := IntWalk.i64_in _ (by omega)
      have h := HWF.out.cfg
      rw [HCC.out] at h
      have hp1 := psum_le h (k := k + 1) (by omega)
      have hps := szN_psum c (k := k) (by omega)
      rw [hps] at hp1
      have hix := HIX.out
      have hw2 : IntKind.i64.wrap (ix + psum c k + szN c k) = ix + psum c k + szN c k := IntWalk.i64_in _ (by omega)
      have HPS := Lib.hid hps
      clear h hps hp1 hix
      go_wp2
      go_roundw
      case rel => exact ⟨⟨rfl, k + 1, by omega, rfl, by rw [HPS.out, Int.add_assoc]⟩⟩
      case measure => simp only [intOf]; omega
    · obtain rfl : k = m := by omega
      have hltd : decide ((k : Int) < (k : Int)) = false := decide_eq_false (by omega)
      clear hlt
      go_wp2
      go_ret2
      exact ⟨rfl, HN0.out.below⟩
end Go.Proofs.YtogmkbhbmmgidaaGreat
end
section
namespace Go.Proofs.YtogmkbhbmmgidaaGreat
open Go.RowKit Go.Sl Go.ChangeMaps
def rshO (p : Nat) (S : ShelfM) (vb vs vi : Value) (ps qs : List Nat) (q : Nat) (D : DiskM) (R F : HProp) : HProp :=
  pts p (.cells (rsC S.cfg vb vs vi (!S.off) S.rleft) TRsh (0, 0)) * (ownAt TRp 1 vb S.bays.length (ps.map ptrV) * (ownAt 3 1 vs S.bays.length (S.bays.map stV) * (ownAt TRp 1 vi S.images.length (qs.map ptrV) *
    (refD RT q D * (R * (refsT RT qs S.images * F))))))
structure RshOpen (S : ShelfM) (k : Nat) (ps qs : List Nat) (q : Nat) (R : HProp) : Prop where
  wf : S.WF
  lb : ps.length = S.bays.length
  li : qs.length = S.images.length
  at_ : ps[k]? = some q
  bay : S.bays[k]? = some ⟨S.disk k, S.state k⟩
  set : ∀ q' D', refsT RT (ps.set k q') ((S.bays.map BayM.disk).set k D') = refD RT q' D' * R
theorem rsh_open {p : Nat} {S : ShelfM} {F : HProp} {w : World} (hS : Sat w (rshAt RS p S * F)) {k : Nat} (hk : k < S.bays.length) :
    ∃ vb vs vi ps qs q R, RshOpen S k ps qs q R ∧ Sat w (rshO p S vb vs vi ps qs q (S.disk k) R F) := by
  obtain ⟨vb, vs, vi, ps, qs, ⟨hwf, h1, h2⟩, hs⟩ := rshAt_iff.1 hS
  have hbay := ShelfM.bay_of (S := S) (d := (k : Int)) (by omega) (by omega)
  rw [Int.toNat_natCast] at hbay
  obtain ⟨q, hq⟩ : ∃ q, ps[k]? = some q := ⟨_, List.getElem?_eq_getElem (by omega)⟩
  obtain ⟨R, hR⟩ := refsT_split (T := RT) ps (S.bays.map BayM.disk) k (by omega) (by simpa using hk)
  have hd : (S.bays.map BayM.disk)[k]? = some (S.disk k) := by rw [List.getElem?_map, hbay]; rfl
  have e := hR q (S.disk k)
  rw [set_self hq, set_self hd] at e
  refine ⟨vb, vs, vi, ps, qs, q, R, ⟨hwf, h1, h2, hq, hbay, hR⟩, ?_⟩
  rw [show RS.rf = RT from rfl, e] at hs
  unfold rshO
  rw [star_assoc] at hs
  exact hs
theorem rsh_disk {p : Nat} {S : ShelfM} {F : HProp} {w : World} {k : Nat} {vb vs vi : Value} {ps qs : List Nat} {q : Nat} {R : HProp} {D : DiskM} (ho : RshOpen S k ps qs q R) (hwf : (S.setDisk k D).WF) (h : Sat w (rshO p S vb vs vi ps qs q D R F)) : Sat w (rshAt RS p (S.setDisk k D) * F) := by
  have e1 : (S.setDisk k D).bays = S.bays.set k ⟨D, S.state k⟩ := by unfold ShelfM.setDisk ShelfM.setBay; rw [Int.toNat_natCast]
  have e2 : (S.setDisk k D).bays.map BayM.disk = (S.bays.map BayM.disk).set k D := by rw [e1, List.map_set]
  have e3 : (S.setDisk k D).bays.map stV = S.bays.map stV := by
    rw [e1, List.map_set]
    refine set_self ?_
    rw [List.getElem?_map, ho.bay]; rfl
  have e4 : (S.setDisk k D).bays.length = S.bays.length := by rw [e1, List.length_set]
  refine rshAt_iff.2 ⟨vb, vs, vi, ps, qs, ⟨hwf, by rw [e4]; exact ho.lb, ho.li⟩, ?_⟩
  rw [e2, e3, e4]
  have e := ho.set q D
  rw [set_self ho.at_] at e
  rw [show RS.rf = RT from rfl, e, star_assoc]
  exact h
theorem rsh_state {p : Nat} {S : ShelfM} {F : HProp} {w : World} {k gs n cap : Nat} {vb vi : Value} {ps qs : List Nat} {q : Nat} {R : HProp} {D : DiskM} (ho : RshOpen S k ps qs q R) (st : Int) (hn : S.bays.length = n) (hwf : (S.setBay k ⟨D, st⟩).WF) (h : Sat w (rshO p S vb (.slice (some ⟨gs, 0, none⟩) n cap) vi ps qs q D R F)) : Sat (w.setCell ⟨gs, k, none⟩ (.int .i64 st)) (rshAt RS p (S.setBay k ⟨D, st⟩) * F) := by
  have hk := (List.getElem?_eq_some_iff.1 ho.bay).1
  have e1 : (S.setBay k ⟨D, st⟩).bays = S.bays.set k ⟨D, st⟩ := by unfold ShelfM.setBay; rw [Int.toNat_natCast]
  have e2 : (S.setBay k ⟨D, st⟩).bays.map BayM.disk = (S.bays.map BayM.disk).set k D := by rw [e1, List.map_set]
  have e3 : (S.setBay k ⟨D, st⟩).bays.map stV = (S.bays.map stV).set k (.int .i64 st) := by rw [e1, List.map_set]; rfl
  have e4 : (S.setBay k ⟨D, st⟩).bays.length = S.bays.length := by rw [e1, List.length_set]
  refine rshAt_iff.2 ⟨vb, .slice (some ⟨gs, 0, none⟩) n cap, vi, ps, qs, ⟨hwf, by rw [e4]; exact ho.lb, ho.li⟩, ?_⟩
  rw [e2, e3, e4]
  have e := ho.set q D
  rw [set_self ho.at_] at e
  rw [show RS.rf = RT from rfl, e, star_assoc]
  unfold rshO at h
  have h1 := ownAt_set (h.perm (show _ = ownAt 3 1 (.slice (some ⟨gs, 0, none⟩) n cap) S.bays.length (S.bays.map stV) * (pts p (.cells (rsC S.cfg vb (.slice (some ⟨gs, 0, none⟩) n cap) vi (!S.off) S.rleft) TRsh (0, 0)) * (ownAt TRp 1 vb S.bays.length (ps.map ptrV) * (ownAt TRp 1 vi S.images.length (qs.map ptrV) *
    (refD RT q D * (R * (refsT RT qs S.images * F)))))) from by ac_rfl)) (by omega) (g := gs) (cap := cap) (by rw [hn]) (j := k) (.int .i64 st)
  exact h1.perm (show _ = pts p (.cells (rsC S.cfg vb (.slice (some ⟨gs, 0, none⟩) n cap) vi (!S.off) S.rleft) TRsh (0, 0)) * (ownAt TRp 1 vb S.bays.length (ps.map ptrV) * (ownAt 3 1 (.slice (some ⟨gs, 0, none⟩) n cap) S.bays.length ((S.bays.map stV).set k (.int .i64 st)) * (ownAt TRp 1 vi S.images.length (qs.map ptrV) *
    (refD RT q D * (R * (refsT RT qs S.images * F)))))) from by ac_rfl)
end Go.Proofs.YtogmkbhbmmgidaaGreat
end
