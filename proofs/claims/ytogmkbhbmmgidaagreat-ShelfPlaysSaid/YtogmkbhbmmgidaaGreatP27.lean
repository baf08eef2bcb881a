import Derived.Test.YtogmkbhbmmgidaaGreatP26
import Derived.Test.YtogmkbhbmmgidaaGreatP25
/- Part 27 of a proof; the last part says what is proved. -/
namespace Go.Proofs.YtogmkbhbmmgidaaGreat
open Go.RowKit Go.Sl Go.ChangeMaps
def rshG (p : Nat) (S : ShelfM) (vb vs vi : Value) (n : Nat) (bl sl : List Value) (m : Nat) (il : List Value) (X : HProp) : HProp :=
  pts p (.cells (rsC S.cfg vb vs vi (!S.off) S.rleft) TRsh (0, 0)) * (ownAt TRp 1 vb n bl * (ownAt 3 1 vs n sl * (ownAt TRp 1 vi m il * X)))
section
variable {p : Nat} {S : ShelfM} {vb vs vi : Value} {n m : Nat} {bl sl il : List Value} {X : HProp} {w : World}
theorem rshG_own (h : Sat w (rshG p S vb vs vi n bl sl m il X)) : w.cell? ⟨p, 6, none⟩ = some vb ∧ w.cell? ⟨p, 7, none⟩ = some vs ∧ w.cell? ⟨p, 8, none⟩ = some vi ∧ w.frozen? ⟨p, 8, none⟩ = false := by
  unfold rshG at h
  obtain ⟨⟨q6, q7, q8, _, _⟩, _, _⟩ := rs_cells h
  exact ⟨q6, q7, q8, thawed_at h.block 8⟩
theorem rshG_bay {g cap : Nat} (h : Sat w (rshG p S (.slice (some ⟨g, 0, none⟩) n cap) vs vi n bl sl m il X)) (hn : 0 < n) : (∀ j u, bl[j]? = some u → w.cell? ⟨g, j, none⟩ = some u) ∧ ∀ j, w.frozen? ⟨g, j, none⟩ = false := by
  unfold rshG at h
  obtain ⟨g', cap', cur, e, _, hc, hf, _⟩ := ownAt_block h.right hn
  simp only [Value.slice.injEq, Option.some.injEq, Addr.mk.injEq, and_true, true_and] at e
  obtain ⟨rfl, -⟩ := e
  exact ⟨hc, hf⟩
theorem rshG_state {g cap : Nat} (h : Sat w (rshG p S vb (.slice (some ⟨g, 0, none⟩) n cap) vi n bl sl m il X)) (hn : 0 < n) : (∀ j u, sl[j]? = some u → w.cell? ⟨g, j, none⟩ = some u) ∧ ∀ j, w.frozen? ⟨g, j, none⟩ = false := by
  unfold rshG at h
  obtain ⟨g', cap', cur, e, _, hc, hf, _⟩ := ownAt_block h.right.right hn
  simp only [Value.slice.injEq, Option.some.injEq, Addr.mk.injEq, and_true, true_and] at e
  obtain ⟨rfl, -⟩ := e
  exact ⟨hc, hf⟩
theorem rshG_setB {g cap k : Nat} (h : Sat w (rshG p S (.slice (some ⟨g, 0, none⟩) n cap) vs vi n bl sl m il X)) (hn : 0 < n) (u : Value) : Sat (w.setCell ⟨g, k, none⟩ u) (rshG p S (.slice (some ⟨g, 0, none⟩) n cap) vs vi n (bl.set k u) sl m il X) := by
  unfold rshG at h ⊢
  have h1 := ownAt_set (h.perm (show _ = ownAt TRp 1 (.slice (some ⟨g, 0, none⟩) n cap) n bl * (pts p (.cells (rsC S.cfg (.slice (some ⟨g, 0, none⟩) n cap) vs vi (!S.off) S.rleft) TRsh (0, 0)) * (ownAt 3 1 vs n sl * (ownAt TRp 1 vi m il * X))) from by ac_rfl)) hn (g := g) (cap := cap) rfl (j := k) u
  exact h1.perm (by ac_rfl)
theorem rshG_setS {g cap k : Nat} (h : Sat w (rshG p S vb (.slice (some ⟨g, 0, none⟩) n cap) vi n bl sl m il X)) (hn : 0 < n) (u : Value) : Sat (w.setCell ⟨g, k, none⟩ u) (rshG p S vb (.slice (some ⟨g, 0, none⟩) n cap) vi n bl (sl.set k u) m il X) := by
  unfold rshG at h ⊢
  have h1 := ownAt_set (h.perm (show _ = ownAt 3 1 (.slice (some ⟨g, 0, none⟩) n cap) n sl * (pts p (.cells (rsC S.cfg vb (.slice (some ⟨g, 0, none⟩) n cap) vi (!S.off) S.rleft) TRsh (0, 0)) * (ownAt TRp 1 vb n bl * (ownAt TRp 1 vi m il * X))) from by ac_rfl)) hn (g := g) (cap := cap) rfl (j := k) u
  exact h1.perm (by ac_rfl)
end
theorem rshO_G {p : Nat} {S : ShelfM} {vb vs vi : Value} {ps qs : List Nat} {q : Nat} {D : DiskM} {R F : HProp} : rshO p S vb vs vi ps qs q D R F = rshG p S vb vs vi S.bays.length (ps.map ptrV) (S.bays.map stV) S.images.length (qs.map ptrV) (refD RT q D * (R * (refsT RT qs S.images * F))) := rfl
set_option maxRecDepth 20000 in
set_option maxHeartbeats 4000000 in
theorem rremove_any (p : Nat) (S : ShelfM) (F : HProp) (d : Int) (w : World) (hS : Sat w (rshAt RS p S * F)) (hil : S.images.length ≤ 1000000) :
    Calls Tryz.prog 44 #[.pointer (some ⟨p, 0, none⟩), .int .i64 d] w fun e w' => e = .returned (.tuple #[.int .i64 (S.remove d).2.1, .int .i64 (S.remove d).2.2]) ∧ Hid (Same w w' ∧ Sat w' (rshAt RS p (S.remove d).1 * F)) := by
  have hwf := rshAt_wf hS
  have HST := Lib.hid (rstate_any p S F d w hS)
  have HS := Lib.hid hS
  by_cases h0 : S.state d = 0
  · have hk : S.remove d = (S, 0, 1) := by unfold ShelfM.remove ShelfM.want; rw [if_pos h0]; rfl
    rw [hk]
    rw [h0] at HST
    clear hk h0 hwf hS hil
    go_enter Tryz.func44, Tryz.ntmps44
    go_wp2_with (go_at_call 53; refine HST.out.mono ?_; rintro e w1 ⟨rfl, rfl⟩)
    go_ret2
    exact ⟨rfl, Same.refl w, HS.out⟩
  · obtain ⟨hd0, hd1⟩ := ShelfM.state_in hwf h0
    obtain ⟨k, rfl⟩ := Int.eq_ofNat_of_zero_le hd0
    have hkb : k < S.bays.length := by omega
    obtain ⟨vb, vs, vi, ps, qs, q, R, ho, hs⟩ := rsh_open hS (k := k) hkb
    obtain ⟨gs, caps, rfl, c7, cs, -⟩ := rsh_states ho hs
    have hkd : S.remove (k : Int) = if S.state k = 1 then ({ S.setBay k ⟨ShelfM.d0, 2⟩ with images := S.images ++ [(S.disk k).cut []] }, (S.images.length : Int), 0) else (S, 0, 15) := by
      unfold ShelfM.remove ShelfM.want
      rw [if_neg h0]
      by_cases h1 : S.state k = 1
      · rw [if_pos h1, decide_eq_true h1]; simp
      · rw [if_neg h1, decide_eq_false h1]; simp
    have e0 : (S.state (k : Int) == 0) = false := by simp [h0]
    obtain ⟨n, hn⟩ : ∃ n, S.bays.length = n := ⟨_, rfl⟩
    obtain ⟨m, hm⟩ : ∃ m, S.images.length = m := ⟨_, rfl⟩
    rw [hn] at c7 hd1
    have HN := Lib.hid (And.intro hn (And.intro hm hkb))
    by_cases h1 : S.state (k : Int) = 1
    case neg =>
      rw [if_neg h1] at hkd
      rw [hkd]
      have e1 : (S.state (k : Int) != 1) = true := by simp [h1]
      generalize S.state (k : Int) = st at cs HST e0 e1
      clear hs ho hwf hS hn hm hkd h0 h1 hil hkb
      go_enter Tryz.func44, Tryz.ntmps44
      go_wp2_with (go_at_call 53; refine HST.out.mono ?_; rintro e w1 ⟨rfl, rfl⟩)
      go_ret2
      exact ⟨rfl, Same.refl w, HS.out⟩
    case pos =>
      rw [if_pos h1] at hkd
      rw [hkd]
      rw [h1] at cs HST
      obtain ⟨g, capb, rfl, c6, cq, -⟩ := rsh_bays ho hs
      rw [hn] at c6
      have HWF := Lib.hid hwf
      rw [rshO_eq] at hs
      have HC := Lib.hid (rcut_any q (S.disk k) _ (.slice none 0 0) [] w hs (fun _ _ => IntsAt.nil _))
      have HO := Lib.hid ho
      have hk0 : (0 : Int) ≤ (k : Int) := by omega
      have hm6 : (m : Int) ≤ 1000000 := by omega
      have HST1 := Lib.hid h1
      clear hs ho hwf hS hn hkd h0 h1 e0 hil hkb HS hm
      go_enter Tryz.func44, Tryz.ntmps44
      go_upto_region 6 with (first
        | (go_at_call 53; refine HST.out.mono ?_; rintro e w1 ⟨rfl, rfl⟩)
        | (go_at_call 88; refine HC.out.mono ?_; rintro e w1 ⟨rfl, h1⟩))
      clear HC HST c6 c7 cs cq
      have hA : Sat w1 (rshG p S (.slice (some ⟨g, 0, none⟩) n capb) (.slice (some ⟨gs, 0, none⟩) n caps) vi n (ps.map ptrV) (S.bays.map stV) m (qs.map ptrV) (refD RT q ((S.disk k).cut []) * (R * (refsT RT qs S.images * F)))) := by
        have h := h1.out.2
        rw [← rshO_eq, rshO_G, HN.out.1, HN.out.2.1] at h
        exact h
      have H1 := Lib.hid (And.intro h1.out.1 hA)
      have hn0 : 0 < n := by omega
      obtain ⟨ao, cap, rfl⟩ := ownAt_slice (show Sat w1 (ownAt TRp 1 vi m (qs.map ptrV) * _) from hA.right.right.right)
      have hS0 : w1.drew.cell? ⟨p, 6, none⟩ = some (.slice (some ⟨g, 0, none⟩) n capb) ∧ w1.drew.cell? ⟨p, 8, none⟩ = some (.slice ao m cap) ∧ w1.drew.cell? ⟨g, k, none⟩ = some (.pointer (some ⟨q, 0, none⟩)) :=
        ⟨(rshG_own hA).1, (rshG_own hA).2.2.1, (rshG_bay hA hn0).1 k (ptrV q) (by rw [List.getElem?_map, HO.out.at_]; rfl)⟩
      refine reg_begin (fun w' => w'.cell? ⟨p, 6, none⟩ = some (.slice (some ⟨g, 0, none⟩) n capb) ∧ w'.cell? ⟨p, 8, none⟩ = some (.slice ao m cap) ∧ w'.cell? ⟨g, k, none⟩ = some (.pointer (some ⟨q, 0, none⟩))) (by kernel_rfl) ?_
      replace H1 := Lib.hid (And.intro H1.out.1.drew H1.out.2.drew)
      clear hA h1
      generalize w1.drew = W1 at hS0 H1 ⊢
      (apply reg_take 0 rfl rfl (by decide +kernel) rfl); (rintro w' ⟨h1, h2, h3⟩; go_simp; rfl); exact hS0; simp only [List.setIfInBounds_toArray, List.set_cons_succ, List.set_cons_zero]
      (apply reg_take 1 rfl rfl (by decide +kernel) rfl); (rintro w' ⟨h1, h2, h3⟩; go_simp; rfl); exact hS0; simp only [List.setIfInBounds_toArray, List.set_cons_succ, List.set_cons_zero]
      (apply reg_take 2 rfl rfl (by decide +kernel) rfl); (rintro w' ⟨h1, h2, h3⟩; go_simp; rfl); exact hS0; simp only [List.setIfInBounds_toArray, List.set_cons_succ, List.set_cons_zero]
      (apply reg_take 3 rfl rfl (by decide +kernel) rfl); (rintro w' ⟨h1, h2, h3⟩; go_simp; rfl); exact hS0; simp only [List.setIfInBounds_toArray, List.set_cons_succ, List.set_cons_zero]
      (apply reg_take 4 rfl rfl (by decide +kernel) rfl); (rintro w' ⟨h1, h2, h3⟩; go_simp; rfl); exact hS0; simp only [List.setIfInBounds_toArray, List.set_cons_succ, List.set_cons_zero]
      (apply reg_take 5 rfl rfl (by decide +kernel) rfl); (rintro w' ⟨h1, h2, h3⟩; go_simp; rfl); exact hS0; simp only [List.setIfInBounds_toArray, List.set_cons_succ, List.set_cons_zero]
      (apply reg_take 6 rfl rfl (by decide +kernel) rfl); (rintro w' ⟨h1, h2, h3⟩; go_simp; rfl); exact hS0; simp only [List.setIfInBounds_toArray, List.set_cons_succ, List.set_cons_zero]
      (apply reg_take 7 rfl rfl (by decide +kernel) rfl); (rintro w' ⟨h1, h2, h3⟩; go_simp; rfl); exact hS0; simp only [List.setIfInBounds_toArray, List.set_cons_succ, List.set_cons_zero]
      (apply reg_take 8 rfl rfl (by decide +kernel) rfl); (rintro w' ⟨h1, h2, h3⟩; go_simp; rfl); exact hS0; simp only [List.setIfInBounds_toArray, List.set_cons_succ, List.set_cons_zero]
      (apply reg_take 9 rfl rfl (by decide +kernel) rfl); (rintro w' ⟨h1, h2, h3⟩; go_simp; rfl); exact hS0; simp only [List.setIfInBounds_toArray, List.set_cons_succ, List.set_cons_zero]
      (apply reg_take 10 rfl rfl (by decide +kernel) rfl); (rintro w' ⟨h1, h2, h3⟩; go_simp; rfl); exact hS0; simp only [List.setIfInBounds_toArray, List.set_cons_succ, List.set_cons_zero]
      (apply reg_take 11 rfl rfl (by decide +kernel) rfl); (rintro w' ⟨h1, h2, h3⟩; go_simp; rfl); exact hS0; simp only [List.setIfInBounds_toArray, List.set_cons_succ, List.set_cons_zero]
      have hA2 := (show Sat (W1.alloc (.cells #[.pointer (some ⟨q, 0, none⟩)] TRp)) (pts W1.heap.size (.cells #[.pointer (some ⟨q, 0, none⟩)] TRp (0, 0)) * rshG p S (.slice (some ⟨g, 0, none⟩) n capb) (.slice (some ⟨gs, 0, none⟩) n caps) (.slice ao m cap) n (ps.map ptrV) (S.bays.map stV) m (qs.map ptrV) (refD RT q ((S.disk k).cut []) * (R * (refsT RT qs S.images * F)))) from H1.out.2.alloc _)
      have hS2 : (W1.alloc (.cells #[.pointer (some ⟨q, 0, none⟩)] TRp)).cell? ⟨p, 6, none⟩ = some (.slice (some ⟨g, 0, none⟩) n capb) ∧ (W1.alloc (.cells #[.pointer (some ⟨q, 0, none⟩)] TRp)).cell? ⟨p, 8, none⟩ = some (.slice ao m cap) ∧ (W1.alloc (.cells #[.pointer (some ⟨q, 0, none⟩)] TRp)).cell? ⟨g, k, none⟩ = some (.pointer (some ⟨q, 0, none⟩)) :=
        ⟨(rshG_own hA2.right).1, (rshG_own hA2.right).2.2.1, (rshG_bay hA2.right hn0).1 k (ptrV q) (by rw [List.getElem?_map, HO.out.at_]; rfl)⟩
      refine reg_run 12 (.slice (some ⟨W1.heap.size, 0, none⟩) 1 1) (W1.alloc (.cells #[.pointer (some ⟨q, 0, none⟩)] TRp)) rfl rfl (by decide +kernel) rfl (by go_simp) (hS2) ?_; simp only [List.setIfInBounds_toArray, List.set_cons_succ, List.set_cons_zero]
      obtain ⟨ti, hti, hz0, hts, hz2⟩ := info_parts info_Rp
      have hA3 := hA2.perm (show _ = ownAt TRp 1 (.slice ao m cap) m (qs.map ptrV) * (pts W1.heap.size (.cells #[.pointer (some ⟨q, 0, none⟩)] TRp (0, 0)) * (pts p (.cells (rsC S.cfg (.slice (some ⟨g, 0, none⟩) n capb) (.slice (some ⟨gs, 0, none⟩) n caps) (.slice ao m cap) (!S.off) S.rleft) TRsh (0, 0)) * (ownAt TRp 1 (.slice (some ⟨g, 0, none⟩) n capb) n (ps.map ptrV) * (ownAt 3 1 (.slice (some ⟨gs, 0, none⟩) n caps) n (S.bays.map stV) * (refD RT q ((S.disk k).cut []) * (R * (refsT RT qs S.images * F))))))) from by unfold rshG; ac_rfl)
      obtain ⟨v', w5, hr, hsm5, hs5⟩ := run_append_ownAt (P := Tryz.prog) 64 64 TRp ti _ Tryz.underlying64 hti hz0 (by rw [hts]; rfl) (.slice ao m cap) m (qs.map ptrV) (by rw [hts]; exact hA3) ⟨W1.heap.size, 0, none⟩ 1 1 [.pointer (some ⟨q, 0, none⟩)] (by rw [hts]; rfl)
        (by intro j u hu; rw [Addr.add_mid, cells_at hA3.right.block, Nat.zero_add]; simpa using hu) (by simp [Value.oneCell']) (by unfold maxLen; omega) (by rw [hz2]; omega)
      rw [hts] at hs5
      obtain ⟨ao', cap', rfl⟩ := ownAt_slice hs5
      have hA5 := hs5.perm (show _ = pts W1.heap.size (.cells #[.pointer (some ⟨q, 0, none⟩)] TRp (0, 0)) * (pts p (.cells (rsC S.cfg (.slice (some ⟨g, 0, none⟩) n capb) (.slice (some ⟨gs, 0, none⟩) n caps) (.slice ao m cap) (!S.off) S.rleft) TRsh (0, 0)) * (ownAt TRp 1 (.slice (some ⟨g, 0, none⟩) n capb) n (ps.map ptrV) * (ownAt 3 1 (.slice (some ⟨gs, 0, none⟩) n caps) n (S.bays.map stV) * (ownAt TRp 1 (.slice ao' (m + 1) cap') (m + 1) (qs.map ptrV ++ [.pointer (some ⟨q, 0, none⟩)]) * (refD RT q ((S.disk k).cut []) * (R * (refsT RT qs S.images * F))))))) from by ac_rfl)
      have hA6 := hA5.right
      have hq6 := rs_cells hA6
      have hb6 := ownAt_block hA6.right hn0
      have hS5 : w5.cell? ⟨p, 6, none⟩ = some (.slice (some ⟨g, 0, none⟩) n capb) ∧ w5.cell? ⟨p, 8, none⟩ = some (.slice ao m cap) ∧ w5.cell? ⟨g, k, none⟩ = some (.pointer (some ⟨q, 0, none⟩)) := by
        refine ⟨hq6.1.1, hq6.1.2.2.1, ?_⟩
        obtain ⟨g', cap', cur, e, _, hc, hf, _⟩ := hb6
        simp only [Value.slice.injEq, Option.some.injEq, Addr.mk.injEq, and_true, true_and] at e
        obtain ⟨rfl, -⟩ := e
        exact hc k (ptrV q) (by rw [List.getElem?_map, HO.out.at_]; rfl)
      refine reg_run 13 (.slice ao' (m + 1) cap') (w5) rfl rfl (by decide +kernel) rfl (exec_append rfl rfl rfl hr) (hS5) ?_; simp only [List.setIfInBounds_toArray, List.set_cons_succ, List.set_cons_zero]
      (apply reg_take 14 rfl rfl (by decide +kernel) rfl); (rintro w' ⟨h1, h2, h3⟩; go_simp; rfl); exact hS5; simp only [List.setIfInBounds_toArray, List.set_cons_succ, List.set_cons_zero]
      (apply reg_take 15 rfl rfl (by decide +kernel) rfl); (rintro w' ⟨h1, h2, h3⟩; go_simp; rfl); exact hS5; simp only [List.setIfInBounds_toArray, List.set_cons_succ, List.set_cons_zero]
      obtain ⟨ip, hip, hip2⟩ := Option.map_eq_some_iff.1 (show (Tryz.prog.info? 64).map (·.size) = some 1 by kernel_rfl)
      refine reg_do_last 16 (w5.setCell ⟨p, 8, none⟩ (.slice ao' (m + 1) cap')) rfl rfl (by decide +kernel) rfl (exec_store_cell rfl rfl rfl hip hip2 rfl hS5.2.1 (thawed_at hA6.block 8)) ?_
      have H6 := Lib.hid (show Same w (w5.setCell ⟨p, 8, none⟩ (.slice ao' (m + 1) cap')) ∧ Sat (w5.setCell ⟨p, 8, none⟩ (.slice ao' (m + 1) cap')) (rshG p S (.slice (some ⟨g, 0, none⟩) n capb) (.slice (some ⟨gs, 0, none⟩) n caps) (.slice ao' (m + 1) cap') n (ps.map ptrV) (S.bays.map stV) (m + 1) (qs.map ptrV ++ [ptrV q]) (refD RT q ((S.disk k).cut []) * (R * (refsT RT qs S.images * F)))) from ⟨((H1.out.1.alloc _).trans hsm5).setCell _ _, by
        have h9 := hA6.setCell (i := 8) (.slice ao' (m + 1) cap')
        unfold rshG
        exact h9.perm (by unfold rsC ptrV; simp only [List.setIfInBounds_toArray, List.set_cons_succ, List.set_cons_zero])⟩)
      clear hS0 hS2 hS5 hA2 hA3 hs5 hA5 hA6 hq6 hb6 hr hsm5 hti hz0 hts hz2 hip hip2 ip H1
      generalize w5.setCell ⟨p, 8, none⟩ (.slice ao' (m + 1) cap') = W6 at H6 ⊢
      go_upto_region 7 with (fail)
      have hS0 : W6.drew.cell? ⟨p, 6, none⟩ = some (.slice (some ⟨g, 0, none⟩) n capb) := (rshG_own H6.out.2).1
      refine reg_begin (fun w' => w'.cell? ⟨p, 6, none⟩ = some (.slice (some ⟨g, 0, none⟩) n capb)) (by kernel_rfl) ?_
      replace H6 := Lib.hid (And.intro H6.out.1.drew H6.out.2.drew)
      generalize W6.drew = W7 at hS0 H6 ⊢
      (apply reg_take 0 rfl rfl (by decide +kernel) rfl); (intro w' h1; go_simp; rfl); exact hS0; simp only [List.setIfInBounds_toArray, List.set_cons_succ, List.set_cons_zero]
      (apply reg_take 1 rfl rfl (by decide +kernel) rfl); (intro w' h1; go_simp; rfl); exact hS0; simp only [List.setIfInBounds_toArray, List.set_cons_succ, List.set_cons_zero]
      (apply reg_take 2 rfl rfl (by decide +kernel) rfl); (intro w' h1; go_simp; rfl); exact hS0; simp only [List.setIfInBounds_toArray, List.set_cons_succ, List.set_cons_zero]
      (apply reg_take 3 rfl rfl (by decide +kernel) rfl); (intro w' h1; go_simp; rfl); exact hS0; simp only [List.setIfInBounds_toArray, List.set_cons_succ, List.set_cons_zero]
      (apply reg_take 4 rfl rfl (by decide +kernel) rfl); (intro w' h1; go_simp; rfl); exact hS0; simp only [List.setIfInBounds_toArray, List.set_cons_succ, List.set_cons_zero]
      refine reg_call 5 rfl rfl (by decide +kernel) rfl (f := 23) (args := #[.int .i64 0]) (R := fun v w' => ∃ q', v = .pointer (some ⟨q', 0, none⟩) ∧ Hid (Same w w' ∧ Sat w' (rshG p S (.slice (some ⟨g, 0, none⟩) n capb) (.slice (some ⟨gs, 0, none⟩) n caps) (.slice ao' (m + 1) cap') n (ps.map ptrV) (S.bays.map stV) (m + 1) (qs.map ptrV ++ [ptrV q]) (refD RT q' ShelfM.d0 * (refD RT q ((S.disk k).cut []) * (R * (refsT RT qs S.images * F))))))) (by kernel_rfl)
        ((rnew16_any 0 _ W7 H6.out.2).mono fun e w' h => by
          obtain ⟨q', rfl, hX⟩ := h
          obtain ⟨h1, h2⟩ := hX.out
          exact ⟨_, rfl, q', rfl, H6.out.1.trans h1, h2.perm (by unfold rshG; show refD RT q' ShelfM.d0 * _ = _; ac_rfl)⟩) ?_
      rintro _ w8 ⟨q', rfl, H8⟩
      have hS8 : w8.cell? ⟨p, 6, none⟩ = some (.slice (some ⟨g, 0, none⟩) n capb) := (rshG_own H8.out.2).1
      refine ⟨hS8, ?_⟩
      simp only [List.setIfInBounds_toArray, List.set_cons_succ, List.set_cons_zero]
      (apply reg_take 6 rfl rfl (by decide +kernel) rfl); (intro w' h1; go_simp; rfl); exact hS8; simp only [List.setIfInBounds_toArray, List.set_cons_succ, List.set_cons_zero]
      have hb8 := rshG_bay H8.out.2 hn0
      have hq8 : w8.cell? ⟨g, k, none⟩ = some (.pointer (some ⟨q, 0, none⟩)) := hb8.1 k (ptrV q) (by rw [List.getElem?_map, HO.out.at_]; rfl)
      obtain ⟨ip, hip, hip2⟩ := Option.map_eq_some_iff.1 (show (Tryz.prog.info? TRp).map (·.size) = some 1 by kernel_rfl)
      refine reg_do_last 7 (w8.setCell ⟨g, k, none⟩ (.pointer (some ⟨q', 0, none⟩))) rfl rfl (by decide +kernel) rfl (exec_store_cell rfl rfl rfl hip hip2 rfl hq8 (hb8.2 k)) ?_
      have H9 := Lib.hid (And.intro (H8.out.1.setCell ⟨g, k, none⟩ (.pointer (some ⟨q', 0, none⟩))) (rshG_setB (k := k) H8.out.2 hn0 (.pointer (some ⟨q', 0, none⟩))))
      clear hS0 hS8 hb8 hq8 hip hip2 ip H8 H6
      generalize w8.setCell ⟨g, k, none⟩ (.pointer (some ⟨q', 0, none⟩)) = W9 at H9 ⊢
      have c7 : W9.cell? ⟨p, 7, none⟩ = some (.slice (some ⟨gs, 0, none⟩) n caps) := (rshG_own H9.out.2).2.1
      have cs := (rshG_state H9.out.2 hn0).1 k _ (by rw [List.getElem?_map, HO.out.bay]; rfl)
      have fs := (rshG_state H9.out.2 hn0).2 k
      have H10 := Lib.hid (And.intro (H9.out.1.setCell ⟨gs, k, none⟩ (.int .i64 2)) (rshG_setS (k := k) H9.out.2 hn0 (.int .i64 2)))
      have c8 : (W9.setCell ⟨gs, k, none⟩ (.int .i64 2)).cell? ⟨p, 8, none⟩ = some (.slice ao' (m + 1) cap') := (rshG_own H10.out.2).2.2.1
      go_wp2
      go_ret2
      obtain ⟨hn, hm, hkb⟩ := HN.out
      refine ⟨by rw [hm]; try simp, H10.out.1, ?_⟩
      have hb : (S.setBay k ⟨ShelfM.d0, 2⟩).bays = S.bays.set k ⟨ShelfM.d0, 2⟩ := by unfold ShelfM.setBay; rw [Int.toNat_natCast]
      have hw2 : (S.setBay k ⟨ShelfM.d0, 2⟩).WF := HWF.out.setBay _ ⟨.inr (.inl rfl), fun h => by cases h⟩
      have hst := HST1.out
      refine rshAt_iff.2 ⟨.slice (some ⟨g, 0, none⟩) n capb, .slice (some ⟨gs, 0, none⟩) n caps, .slice ao' (m + 1) cap', ps.set k q', qs ++ [q], ⟨⟨hw2.cfg, hw2.bays, hw2.st, ?_, hw2.left⟩, ?_, ?_⟩, ?_⟩
      · intro D hD
        rcases List.mem_append.1 hD with h | h
        · exact HWF.out.images D h
        · rw [List.mem_singleton.1 h, DiskM.cut_n]
          exact ShelfM.disk_n HWF.out hst
      · show (ps.set k q').length = (S.setBay k ⟨ShelfM.d0, 2⟩).bays.length
        rw [hb, List.length_set, List.length_set]; exact HO.out.lb
      · show (qs ++ [q]).length = (S.images ++ [(S.disk k).cut []]).length
        rw [List.length_append, List.length_append, HO.out.li]; rfl
      · have h := H10.out.2
        unfold rshG at h
        show Sat _ (pts p (.cells (rsC S.cfg _ _ _ (!S.off) S.rleft) TRsh (0, 0)) * (ownAt TRp 1 _ (S.setBay k ⟨ShelfM.d0, 2⟩).bays.length ((ps.set k q').map ptrV) * (ownAt 3 1 _ (S.setBay k ⟨ShelfM.d0, 2⟩).bays.length ((S.setBay k ⟨ShelfM.d0, 2⟩).bays.map stV) * (ownAt TRp 1 _ (S.images ++ [(S.disk k).cut []]).length ((qs ++ [q]).map ptrV) *
          (refsT RT (ps.set k q') ((S.setBay k ⟨ShelfM.d0, 2⟩).bays.map BayM.disk) * (refsT RT (qs ++ [q]) (S.images ++ [(S.disk k).cut []]) * F))))))
        rw [hb, List.length_set, List.map_set, List.map_set, List.map_set, HO.out.set, refsT_app _ _ _ _ HO.out.li, List.length_append, hm, hn, List.map_append]
        exact h.perm (by show pts p _ * (ownAt TRp 1 _ n _ * (ownAt 3 1 _ n _ * (ownAt TRp 1 _ (m + 1) _ * _))) = pts p _ * (ownAt TRp 1 _ n _ * (ownAt 3 1 _ n _ * (ownAt TRp 1 _ (m + 1) _ * _))); ac_rfl)
end Go.Proofs.YtogmkbhbmmgidaaGreat
