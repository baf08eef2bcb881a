import Derived.Test.YtogmkbhbmmgidaaGreatP28
/- Part 29 of a proof; the last part says what is proved. -/
namespace Go.Proofs.YtogmkbhbmmgidaaGreat
open Go.RowKit Go.Sl Go.ChangeMaps
def rshP (p : Nat) (S : ShelfM) (vb vs vi : Value) (ps qs : List Nat) (F : HProp) : HProp :=
  pts p (.cells (rsC S.cfg vb vs vi (!S.off) S.rleft) TRsh (0, 0)) * (ownAt TRp 1 vb S.bays.length (ps.map ptrV) * (ownAt 3 1 vs S.bays.length (S.bays.map stV) * (ownAt TRp 1 vi S.images.length (qs.map ptrV) *
    (refsT RT ps (S.bays.map BayM.disk) * (refsT RT qs S.images * F)))))
section
variable {p : Nat} {S : ShelfM} {vb vs vi : Value} {ps qs : List Nat} {F : HProp} {w : World}
theorem rshP_at (hl : S.WF ∧ ps.length = S.bays.length ∧ qs.length = S.images.length) (h : Sat w (rshP p S vb vs vi ps qs F)) : Sat w (rshAt RS p S * F) := rshAt_iff.2 ⟨vb, vs, vi, ps, qs, hl, h⟩
theorem rshP_cells (h : Sat w (rshP p S vb vs vi ps qs F)) : (w.cell? ⟨p, 6, none⟩ = some vb ∧ w.cell? ⟨p, 7, none⟩ = some vs ∧ w.cell? ⟨p, 8, none⟩ = some vi ∧ w.cell? ⟨p, 9, none⟩ = some (.bool (!S.off)) ∧ w.cell? ⟨p, 10, none⟩ = some (.int .i64 S.rleft)) ∧ p < w.heap.size ∧ w.rangeAt p 0 (cfgL S.cfg) := rs_cells h
theorem rshP_bay (h : Sat w (rshP p S vb vs vi ps qs F)) (hl : ps.length = S.bays.length) {k : Nat} {b : BayM} (hb : S.bays[k]? = some b) :
    ∃ g cap q R, vb = .slice (some ⟨g, 0, none⟩) S.bays.length cap ∧ w.cell? ⟨g, k, none⟩ = some (.pointer (some ⟨q, 0, none⟩)) ∧ refsT RT ps (S.bays.map BayM.disk) = refD RT q b.disk * R ∧ ps[k]? = some q := by
  have hk := (List.getElem?_eq_some_iff.1 hb).1
  unfold rshP at h
  obtain ⟨g, cap, rfl, hc⟩ := ownAt_cells h.right (by omega)
  obtain ⟨q, hq⟩ : ∃ q, ps[k]? = some q := ⟨_, List.getElem?_eq_getElem (by omega)⟩
  obtain ⟨R, hR⟩ := refsT_split (T := RT) ps (S.bays.map BayM.disk) k (by omega) (by simpa using hk)
  have e := hR q b.disk
  rw [set_self hq, set_self (show (S.bays.map BayM.disk)[k]? = some b.disk by rw [List.getElem?_map, hb]; rfl)] at e
  exact ⟨g, cap, q, R, rfl, hc k (ptrV q) (by rw [List.getElem?_map, hq]; rfl), e, hq⟩
theorem rshP_img (h : Sat w (rshP p S vb vs vi ps qs F)) (hl : qs.length = S.images.length) {k : Nat} {D : DiskM} (hb : S.images[k]? = some D) :
    ∃ g cap q R, vi = .slice (some ⟨g, 0, none⟩) S.images.length cap ∧ w.cell? ⟨g, k, none⟩ = some (.pointer (some ⟨q, 0, none⟩)) ∧ refsT RT qs S.images = refD RT q D * R ∧ qs[k]? = some q := by
  have hk := (List.getElem?_eq_some_iff.1 hb).1
  unfold rshP at h
  obtain ⟨g, cap, rfl, hc⟩ := ownAt_cells h.right.right.right (by omega)
  obtain ⟨q, hq⟩ : ∃ q, qs[k]? = some q := ⟨_, List.getElem?_eq_getElem (by omega)⟩
  obtain ⟨R, hR⟩ := refsT_split (T := RT) qs S.images k (by omega) hk
  have e := hR q D
  rw [set_self hq, set_self hb] at e
  exact ⟨g, cap, q, R, rfl, hc k (ptrV q) (by rw [List.getElem?_map, hq]; rfl), e, hq⟩
end
theorem rshP_bayD {p : Nat} {S : ShelfM} {vb vs vi : Value} {ps qs : List Nat} {F R : HProp} {q : Nat} {D : DiskM} (e : refsT RT ps (S.bays.map BayM.disk) = refD RT q D * R) : rshP p S vb vs vi ps qs F = refD RT q D * (pts p (.cells (rsC S.cfg vb vs vi (!S.off) S.rleft) TRsh (0, 0)) * (ownAt TRp 1 vb S.bays.length (ps.map ptrV) * (ownAt 3 1 vs S.bays.length (S.bays.map stV) * (ownAt TRp 1 vi S.images.length (qs.map ptrV) * (R * (refsT RT qs S.images * F)))))) := by
  unfold rshP; rw [e]; ac_rfl
theorem rshP_imgD {p : Nat} {S : ShelfM} {vb vs vi : Value} {ps qs : List Nat} {F R : HProp} {q : Nat} {D : DiskM} (e : refsT RT qs S.images = refD RT q D * R) : rshP p S vb vs vi ps qs F = refD RT q D * (pts p (.cells (rsC S.cfg vb vs vi (!S.off) S.rleft) TRsh (0, 0)) * (ownAt TRp 1 vb S.bays.length (ps.map ptrV) * (ownAt 3 1 vs S.bays.length (S.bays.map stV) * (ownAt TRp 1 vi S.images.length (qs.map ptrV) * (refsT RT ps (S.bays.map BayM.disk) * (R * F)))))) := by
  unfold rshP; rw [e]; ac_rfl
structure RclSt (w : World) (q : Nat) (S : ShelfM) (vs2 : Value) (O : HProp) (i : Value) (wr : World) : Prop where
  st : ∃ (k : Nat) (rs : List Nat) (vb2 : Value), k ≤ S.bays.length ∧ i = .int .i64 (k : Int) ∧ rs.length = k ∧ Hid (Same w wr ∧
    Sat wr (pts q (.cells (rsC S.cfg vb2 vs2 (.slice none 0 0) (!S.off) S.rleft) TRsh (0, 0)) * (ownAt TRp 1 vb2 k (rs.map ptrV) * (refsT RT rs ((S.bays.take k).map BayM.disk) * (ownAt 3 1 vs2 S.bays.length (S.bays.map stV) * O)))))
structure RclSt2 (w : World) (q : Nat) (S : ShelfM) (vb2 vs2 : Value) (O : HProp) (i : Value) (wr : World) : Prop where
  st : ∃ (k : Nat) (rs : List Nat) (vi2 : Value), k ≤ S.images.length ∧ i = .int .i64 (k : Int) ∧ rs.length = k ∧ Hid (Same w wr ∧
    Sat wr (pts q (.cells (rsC S.cfg vb2 vs2 vi2 (!S.off) S.rleft) TRsh (0, 0)) * (ownAt TRp 1 vi2 k (rs.map ptrV) * (refsT RT rs (S.images.take k) * O))))
theorem take_bays {α : Type} {l : List α} {k : Nat} {x : α} (h : l[k]? = some x) : l.take (k + 1) = l.take k ++ [x] := by rw [List.take_add_one, h]; rfl
set_option maxRecDepth 20000 in
set_option maxHeartbeats 4000000 in
theorem rshclone_any (p : Nat) (S : ShelfM) (F : HProp) (w : World) (hS : Sat w (rshAt RS p S * F)) (hil : S.images.length ≤ 1000000) :
    Calls Tryz.prog 9 #[.pointer (some ⟨p, 0, none⟩)] w fun e w' => ∃ q : Nat, e = .returned (.pointer (some ⟨q, 0, none⟩)) ∧ Hid (Same w w' ∧ Sat w' (rshAt RS q S * (rshAt RS p S * F))) := by
  obtain ⟨vb, vs, vi, ps, qs, hl, hs⟩ := rshAt_iff.1 hS
  have hP : Sat w (rshP p S vb vs vi ps qs F) := hs
  obtain ⟨bo, bc, rfl⟩ := ownAt_slice hs.right
  obtain ⟨so, sc, rfl⟩ := ownAt_slice hs.right.right
  obtain ⟨io, ic, rfl⟩ := ownAt_slice hs.right.right.right
  obtain ⟨⟨c6, c7, c8, c9, c10⟩, hp, hra⟩ := rshP_cells hP
  have hn64 : S.bays.length ≤ 64 := by have h1 := hl.1.bays; have h2 := hl.1.cfg.disks; omega
  have HP := Lib.hid (And.intro (Same.refl w) hP)
  have HL := Lib.hid hl
  clear hS hs hP hl
  go_enter Tryz.func9, Tryz.ntmps9
  go_upto_region 1 with (fail)
  have hS0 : w.drew.rangeAt p 0 (cfgL S.cfg) ∧ w.drew.cell? ⟨p, 9, none⟩ = some (.bool (!S.off)) ∧ w.drew.cell? ⟨p, 10, none⟩ = some (.int .i64 S.rleft) := ⟨hra, c9, c10⟩
  refine reg_begin (fun w' => w'.rangeAt p 0 (cfgL S.cfg) ∧ w'.cell? ⟨p, 9, none⟩ = some (.bool (!S.off)) ∧ w'.cell? ⟨p, 10, none⟩ = some (.int .i64 S.rleft)) (by kernel_rfl) ?_
  replace HP := Lib.hid (And.intro HP.out.1.drew HP.out.2.drew)
  clear c6 c7 c8 c9 c10 hp hra
  generalize w.drew = W1 at hS0 HP ⊢
  (apply reg_take 0 rfl rfl (by decide +kernel) rfl); (rintro w' ⟨h1, h2, h3⟩; go_simp; rfl); exact hS0; simp only [List.setIfInBounds_toArray, List.set_cons_succ, List.set_cons_zero]
  (apply reg_take 1 rfl rfl (by decide +kernel) rfl); (rintro w' ⟨h1, h2, h3⟩; go_simp; rfl); exact hS0; simp only [List.setIfInBounds_toArray, List.set_cons_succ, List.set_cons_zero]
  (apply reg_take 2 rfl rfl (by decide +kernel) rfl); (rintro w' ⟨h1, h2, h3⟩; go_simp; rfl); exact hS0; simp only [List.setIfInBounds_toArray, List.set_cons_succ, List.set_cons_zero]
  refine reg_take 3 (v := .agg (cfgA S.cfg)) rfl rfl (by decide +kernel) rfl (fun w' h => exec_load rfl rfl (load_cfg h.1)) hS0 ?_; simp only [List.setIfInBounds_toArray, List.set_cons_succ, List.set_cons_zero]
  (apply reg_take 4 rfl rfl (by decide +kernel) rfl); (rintro w' ⟨h1, h2, h3⟩; go_simp; rfl); exact hS0; simp only [List.setIfInBounds_toArray, List.set_cons_succ, List.set_cons_zero]
  (apply reg_take 5 rfl rfl (by decide +kernel) rfl); (rintro w' ⟨h1, h2, h3⟩; go_simp; rfl); exact hS0; simp only [List.setIfInBounds_toArray, List.set_cons_succ, List.set_cons_zero]
  (apply reg_take 6 rfl rfl (by decide +kernel) rfl); (rintro w' ⟨h1, h2, h3⟩; go_simp; rfl); exact hS0; simp only [List.setIfInBounds_toArray, List.set_cons_succ, List.set_cons_zero]
  (apply reg_take 7 rfl rfl (by decide +kernel) rfl); (rintro w' ⟨h1, h2, h3⟩; go_simp; rfl); exact hS0; simp only [List.setIfInBounds_toArray, List.set_cons_succ, List.set_cons_zero]
  (apply reg_take 8 rfl rfl (by decide +kernel) rfl); (rintro w' ⟨h1, h2, h3⟩; go_simp; rfl); exact hS0; simp only [List.setIfInBounds_toArray, List.set_cons_succ, List.set_cons_zero]
  (apply reg_take 9 rfl rfl (by decide +kernel) rfl); (rintro w' ⟨h1, h2, h3⟩; go_simp; rfl); exact hS0; simp only [List.setIfInBounds_toArray, List.set_cons_succ, List.set_cons_zero]
  (apply reg_take 10 rfl rfl (by decide +kernel) rfl); (rintro w' ⟨h1, h2, h3⟩; go_simp; rfl); exact hS0; simp only [List.setIfInBounds_toArray, List.set_cons_succ, List.set_cons_zero]
  (apply reg_take 11 rfl rfl (by decide +kernel) rfl); (rintro w' ⟨h1, h2, h3⟩; go_simp; rfl); exact hS0; simp only [List.setIfInBounds_toArray, List.set_cons_succ, List.set_cons_zero]
  (apply reg_take 12 rfl rfl (by decide +kernel) rfl); (rintro w' ⟨h1, h2, h3⟩; go_simp; rfl); exact hS0; simp only [List.setIfInBounds_toArray, List.set_cons_succ, List.set_cons_zero]
  have hA := HP.out.2.alloc (.cells (rsC S.cfg (.slice none 0 0) (.slice none 0 0) (.slice none 0 0) (!S.off) S.rleft) TRsh)
  have hS1 : (W1.alloc (.cells (rsC S.cfg (.slice none 0 0) (.slice none 0 0) (.slice none 0 0) (!S.off) S.rleft) TRsh)).rangeAt p 0 (cfgL S.cfg) ∧ (W1.alloc (.cells (rsC S.cfg (.slice none 0 0) (.slice none 0 0) (.slice none 0 0) (!S.off) S.rleft) TRsh)).cell? ⟨p, 9, none⟩ = some (.bool (!S.off)) ∧ (W1.alloc (.cells (rsC S.cfg (.slice none 0 0) (.slice none 0 0) (.slice none 0 0) (!S.off) S.rleft) TRsh)).cell? ⟨p, 10, none⟩ = some (.int .i64 S.rleft) := by
    obtain ⟨⟨_, _, _, d9, d10⟩, _, dra⟩ := rshP_cells (show Sat _ (rshP p S _ _ _ ps qs F) from hA.right)
    exact ⟨dra, d9, d10⟩
  refine reg_run 13 (.pointer (some ⟨W1.heap.size, 0, none⟩)) (W1.alloc (.cells (rsC S.cfg (.slice none 0 0) (.slice none 0 0) (.slice none 0 0) (!S.off) S.rleft) TRsh)) rfl rfl (by decide +kernel) rfl (by go_simp; rfl) (hS1) ?_; simp only [List.setIfInBounds_toArray, List.set_cons_succ, List.set_cons_zero]
  (apply reg_take 14 rfl rfl (by decide +kernel) rfl); (rintro w' ⟨h1, h2, h3⟩; go_simp; rfl); exact hS1; simp only [List.setIfInBounds_toArray, List.set_cons_succ, List.set_cons_zero]
  refine reg_done (by decide +kernel) ?_
  have H2 := Lib.hid (And.intro (HP.out.1.alloc (.cells (rsC S.cfg (.slice none 0 0) (.slice none 0 0) (.slice none 0 0) (!S.off) S.rleft) TRsh)) hA)
  clear hS0 hS1 hA HP
  generalize W1.alloc (.cells (rsC S.cfg (.slice none 0 0) (.slice none 0 0) (.slice none 0 0) (!S.off) S.rleft) TRsh) = W2 at H2 ⊢
  generalize W1.heap.size = q at H2 ⊢
  obtain ⟨O, hO⟩ : ∃ O, Hid (rshP p S (.slice bo S.bays.length bc) (.slice so S.bays.length sc) (.slice io S.images.length ic) ps qs F = O) := ⟨_, Lib.hid rfl⟩
  rw [hO.out] at H2
  have hn0 : 0 < S.bays.length := by have h1 := HL.out.1.bays; have h2 := HL.out.1.cfg.disks; omega
  obtain ⟨gs, hgs, hcs⟩ : ∃ gs : Nat, so = some ⟨gs, 0, none⟩ ∧ ∀ j u, (S.bays.map stV)[j]? = some u → W2.cell? ⟨gs, j, none⟩ = some u := by
    have h := H2.out.2.right
    rw [← hO.out] at h
    obtain ⟨g, cap, e, hc⟩ := ownAt_cells (show Sat W2 (ownAt 3 1 (.slice so S.bays.length sc) S.bays.length (S.bays.map stV) * _) from h.right.right) hn0
    simp only [Value.slice.injEq] at e
    exact ⟨g, e.1, hc⟩
  subst hgs
  go_upto_region 2 with (fail)
  have hS0 : W2.drew.cell? ⟨q, 7, none⟩ = some (.slice none 0 0) ∧ W2.drew.cell? ⟨p, 7, none⟩ = some (.slice (some ⟨gs, 0, none⟩) S.bays.length sc) := by
    have h := H2.out.2.right
    rw [← hO.out] at h
    exact ⟨cells_at H2.out.2.block 7, (rshP_cells h).1.2.1⟩
  refine reg_begin (fun w' => w'.cell? ⟨q, 7, none⟩ = some (.slice none 0 0) ∧ w'.cell? ⟨p, 7, none⟩ = some (.slice (some ⟨gs, 0, none⟩) S.bays.length sc)) (by kernel_rfl) ?_
  (apply reg_take 0 rfl rfl (by decide +kernel) rfl); (rintro w' ⟨h1, h2⟩; go_simp; rfl); exact hS0; simp only [List.setIfInBounds_toArray, List.set_cons_succ, List.set_cons_zero]
  (apply reg_take 1 rfl rfl (by decide +kernel) rfl); (rintro w' ⟨h1, h2⟩; go_simp; rfl); exact hS0; simp only [List.setIfInBounds_toArray, List.set_cons_succ, List.set_cons_zero]
  (apply reg_take 2 rfl rfl (by decide +kernel) rfl); (rintro w' ⟨h1, h2⟩; go_simp; rfl); exact hS0; simp only [List.setIfInBounds_toArray, List.set_cons_succ, List.set_cons_zero]
  (apply reg_take 3 rfl rfl (by decide +kernel) rfl); (rintro w' ⟨h1, h2⟩; go_simp; rfl); exact hS0; simp only [List.setIfInBounds_toArray, List.set_cons_succ, List.set_cons_zero]
  (apply reg_take 4 rfl rfl (by decide +kernel) rfl); (rintro w' ⟨h1, h2⟩; go_simp; rfl); exact hS0; simp only [List.setIfInBounds_toArray, List.set_cons_succ, List.set_cons_zero]
  (apply reg_take 5 rfl rfl (by decide +kernel) rfl); (rintro w' ⟨h1, h2⟩; go_simp; rfl); exact hS0; simp only [List.setIfInBounds_toArray, List.set_cons_succ, List.set_cons_zero]
  (apply reg_take 6 rfl rfl (by decide +kernel) rfl); (rintro w' ⟨h1, h2⟩; go_simp; rfl); exact hS0; simp only [List.setIfInBounds_toArray, List.set_cons_succ, List.set_cons_zero]
  (apply reg_take 7 rfl rfl (by decide +kernel) rfl); (rintro w' ⟨h1, h2⟩; go_simp; rfl); exact hS0; simp only [List.setIfInBounds_toArray, List.set_cons_succ, List.set_cons_zero]
  (apply reg_take 8 rfl rfl (by decide +kernel) rfl); (rintro w' ⟨h1, h2⟩; go_simp; rfl); exact hS0; simp only [List.setIfInBounds_toArray, List.set_cons_succ, List.set_cons_zero]
  obtain ⟨ti, hti, hz0, hts, hz2⟩ := info_parts info_Ri
  obtain ⟨v2, w3, hr, hsm3, hs3⟩ := run_append_ownAt (P := Tryz.prog) 43 43 3 ti _ Tryz.underlying43 hti hz0 (by rw [hts]; rfl) (.slice none 0 0) 0 [] (by rw [hts]; exact ownAt_nil.2 H2.out.2.drew) ⟨gs, 0, none⟩ S.bays.length sc (S.bays.map stV) (by rw [hts, List.length_map]; omega)
    (by intro j u hu; rw [Addr.add_mid, Nat.zero_add]; exact hcs j u hu) (by intro u hu; obtain ⟨b, _, rfl⟩ := List.mem_map.1 hu; rfl) (by unfold maxLen; omega) (by rw [hz2]; omega)
  rw [hts, List.nil_append, Nat.zero_add] at hs3
  obtain ⟨s2, sc2, rfl⟩ := ownAt_slice hs3
  have hS3 : w3.cell? ⟨q, 7, none⟩ = some (.slice none 0 0) ∧ w3.cell? ⟨p, 7, none⟩ = some (.slice (some ⟨gs, 0, none⟩) S.bays.length sc) := by
    have h := hs3.right.right
    rw [← hO.out] at h
    exact ⟨cells_at hs3.right.block 7, (rshP_cells h).1.2.1⟩
  refine reg_run 9 (.slice s2 S.bays.length sc2) (w3) rfl rfl (by decide +kernel) rfl (exec_append rfl rfl rfl hr) (hS3) ?_; simp only [List.setIfInBounds_toArray, List.set_cons_succ, List.set_cons_zero]
  (apply reg_take 10 rfl rfl (by decide +kernel) rfl); (rintro w' ⟨h1, h2⟩; go_simp; rfl); exact hS3; simp only [List.setIfInBounds_toArray, List.set_cons_succ, List.set_cons_zero]
  (apply reg_take 11 rfl rfl (by decide +kernel) rfl); (rintro w' ⟨h1, h2⟩; go_simp; rfl); exact hS3; simp only [List.setIfInBounds_toArray, List.set_cons_succ, List.set_cons_zero]
  obtain ⟨ip, hip, hip2⟩ := Option.map_eq_some_iff.1 (show (Tryz.prog.info? 43).map (·.size) = some 1 by kernel_rfl)
  refine reg_do_last 12 (w3.setCell ⟨q, 7, none⟩ (.slice s2 S.bays.length sc2)) rfl rfl (by decide +kernel) rfl (exec_store_cell rfl rfl rfl hip hip2 rfl hS3.1 (thawed_at hs3.right.block 7)) ?_
  have H4 := Lib.hid (show Same w (w3.setCell ⟨q, 7, none⟩ (.slice s2 S.bays.length sc2)) ∧ Sat (w3.setCell ⟨q, 7, none⟩ (.slice s2 S.bays.length sc2)) (pts q (.cells (rsC S.cfg (.slice none 0 0) (.slice s2 S.bays.length sc2) (.slice none 0 0) (!S.off) S.rleft) TRsh (0, 0)) * (ownAt 3 1 (.slice s2 S.bays.length sc2) S.bays.length (S.bays.map stV) * O)) from
    ⟨((H2.out.1.drew).trans hsm3).setCell _ _, by
      have h9 := (hs3.perm (show _ = pts q (.cells (rsC S.cfg (.slice none 0 0) (.slice none 0 0) (.slice none 0 0) (!S.off) S.rleft) TRsh (0, 0)) * (ownAt 3 1 (.slice s2 S.bays.length sc2) S.bays.length (S.bays.map stV) * O) from by ac_rfl)).setCell (i := 7) (.slice s2 S.bays.length sc2)
      exact h9⟩)
  clear hS0 hS3 hr hsm3 hs3 hti hz0 hts hz2 hip hip2 ip hcs H2
  generalize w3.setCell ⟨q, 7, none⟩ (.slice s2 S.bays.length sc2) = W4 at H4 ⊢
  have H0 := Lib.hid (show RclSt w q S (.slice s2 S.bays.length sc2) O (.int .i64 0) W4 from ⟨0, [], .slice none 0 0, Nat.zero_le _, rfl, rfl, H4.out.1, by
    have h9 : Sat W4 (ownAt TRp 1 (.slice none 0 0) 0 [] * _) := ownAt_nil.2 H4.out.2
    exact h9.perm (by show _ = pts q _ * (ownAt TRp 1 _ 0 [] * (emp * _)); rw [emp_star]; ac_rfl)⟩)
  go_upto_region 4 with (fail)
  clear H4
  go_loopw [4] (fun i wr => RclSt w q S (.slice s2 S.bays.length sc2) O i wr) (fun i _ => S.bays.length - (intOf i).toNat)
  case atStart => exact H0.out
  case round =>
    clear H0
    obtain ⟨k, rs, vb2, hk, rfl, hrs, H1⟩ := hrel.st
    clear hrel
    have hk64 : (k : Int) ≤ 64 := by omega
    have hOp : Sat wr (rshP p S (.slice bo S.bays.length bc) (.slice (some ⟨gs, 0, none⟩) S.bays.length sc) (.slice io S.images.length ic) ps qs F) := by rw [hO.out]; exact H1.out.2.right.right.right.right
    obtain ⟨⟨c6, _, c8, _, _⟩, _, _⟩ := rshP_cells hOp
    by_cases hlt : k < S.bays.length
    case pos =>
      obtain ⟨b, hb⟩ : ∃ b, S.bays[k]? = some b := ⟨_, List.getElem?_eq_getElem hlt⟩
      obtain ⟨g, gc, pq, R, hbo, cg, hR, hpq⟩ := rshP_bay hOp HL.out.2.1 hb
      simp only [Value.slice.injEq, true_and] at hbo
      obtain ⟨rfl, rfl⟩ := hbo
      have hltd : decide ((k : Int) < (S.bays.length : Int)) = true := decide_eq_true (by omega)
      have hkn : (k : Int) < (S.bays.length : Int) := by omega
      have hk0 : (0 : Int) ≤ (k : Int) := by omega
      have hwk : IntKind.i64.wrap ((k : Int) + 1) = (k : Int) + 1 := IntWalk.i64_in _ (by omega)
      have HB := Lib.hid (And.intro hb (And.intro hlt (And.intro hrs hpq)))
      obtain ⟨O', hO'⟩ : ∃ O', Hid (O = refD RT pq b.disk * O') := ⟨_, Lib.hid (hO.out.symm.trans (rshP_bayD hR))⟩
      clear hOp hb hR hk hrs hpq
      go_upto_region 6 with (fail)
      have hS0 : wr.drew.cell? ⟨q, 6, none⟩ = some vb2 ∧ wr.drew.cell? ⟨p, 6, none⟩ = some (.slice (some ⟨g, 0, none⟩) S.bays.length bc) ∧ wr.drew.cell? ⟨g, k, none⟩ = some (.pointer (some ⟨pq, 0, none⟩)) := ⟨cells_at H1.out.2.block 6, c6, cg⟩
      refine reg_begin (fun w' => w'.cell? ⟨q, 6, none⟩ = some vb2 ∧ w'.cell? ⟨p, 6, none⟩ = some (.slice (some ⟨g, 0, none⟩) S.bays.length bc) ∧ w'.cell? ⟨g, k, none⟩ = some (.pointer (some ⟨pq, 0, none⟩))) (by kernel_rfl) ?_
      replace H1 := Lib.hid (And.intro H1.out.1.drew H1.out.2.drew)
      clear c6 c8 cg
      generalize wr.drew = W5 at hS0 H1 ⊢
      (apply reg_take 0 rfl rfl (by decide +kernel) rfl); (rintro w' ⟨h1, h2, h3⟩; go_simp; rfl); exact hS0; simp only [List.setIfInBounds_toArray, List.set_cons_succ, List.set_cons_zero]
      (apply reg_take 1 rfl rfl (by decide +kernel) rfl); (rintro w' ⟨h1, h2, h3⟩; go_simp; rfl); exact hS0; simp only [List.setIfInBounds_toArray, List.set_cons_succ, List.set_cons_zero]
      (apply reg_take 2 rfl rfl (by decide +kernel) rfl); (rintro w' ⟨h1, h2, h3⟩; go_simp; rfl); exact hS0; simp only [List.setIfInBounds_toArray, List.set_cons_succ, List.set_cons_zero]
      (apply reg_take 3 rfl rfl (by decide +kernel) rfl); (rintro w' ⟨h1, h2, h3⟩; go_simp; rfl); exact hS0; simp only [List.setIfInBounds_toArray, List.set_cons_succ, List.set_cons_zero]
      (apply reg_take 4 rfl rfl (by decide +kernel) rfl); (rintro w' ⟨h1, h2, h3⟩; go_simp; rfl); exact hS0; simp only [List.setIfInBounds_toArray, List.set_cons_succ, List.set_cons_zero]
      (apply reg_take 5 rfl rfl (by decide +kernel) rfl); (rintro w' ⟨h1, h2, h3⟩; go_simp; rfl); exact hS0; simp only [List.setIfInBounds_toArray, List.set_cons_succ, List.set_cons_zero]
      (apply reg_take 6 rfl rfl (by decide +kernel) rfl); (rintro w' ⟨h1, h2, h3⟩; go_simp; rfl); exact hS0; simp only [List.setIfInBounds_toArray, List.set_cons_succ, List.set_cons_zero]
      (apply reg_take 7 rfl rfl (by decide +kernel) rfl); (rintro w' ⟨h1, h2, h3⟩; go_simp; rfl); exact hS0; simp only [List.setIfInBounds_toArray, List.set_cons_succ, List.set_cons_zero]
      (apply reg_take 8 rfl rfl (by decide +kernel) rfl); (rintro w' ⟨h1, h2, h3⟩; go_simp; rfl); exact hS0; simp only [List.setIfInBounds_toArray, List.set_cons_succ, List.set_cons_zero]
      (apply reg_take 9 rfl rfl (by decide +kernel) rfl); (rintro w' ⟨h1, h2, h3⟩; go_simp; rfl); exact hS0; simp only [List.setIfInBounds_toArray, List.set_cons_succ, List.set_cons_zero]
      (apply reg_take 10 rfl rfl (by decide +kernel) rfl); (rintro w' ⟨h1, h2, h3⟩; go_simp; rfl); exact hS0; simp only [List.setIfInBounds_toArray, List.set_cons_succ, List.set_cons_zero]
      (apply reg_take 11 rfl rfl (by decide +kernel) rfl); (rintro w' ⟨h1, h2, h3⟩; go_simp; rfl); exact hS0; simp only [List.setIfInBounds_toArray, List.set_cons_succ, List.set_cons_zero]
      refine reg_call 12 rfl rfl (by decide +kernel) rfl (f := 25) (args := #[.pointer (some ⟨pq, 0, none⟩)]) (R := fun v w' => ∃ q1, v = .pointer (some ⟨q1, 0, none⟩) ∧ Hid (Same w w' ∧ Sat w' (pts q (.cells (rsC S.cfg vb2 (.slice s2 S.bays.length sc2) (.slice none 0 0) (!S.off) S.rleft) TRsh (0, 0)) * (ownAt TRp 1 vb2 k (rs.map ptrV) * (refsT RT rs ((S.bays.take k).map BayM.disk) * (ownAt 3 1 (.slice s2 S.bays.length sc2) S.bays.length (S.bays.map stV) * (refD RT q1 b.disk * O))))))) (by kernel_rfl)
        ((rclone16_any pq b.disk (pts q (.cells (rsC S.cfg vb2 (.slice s2 S.bays.length sc2) (.slice none 0 0) (!S.off) S.rleft) TRsh (0, 0)) * (ownAt TRp 1 vb2 k (rs.map ptrV) * (refsT RT rs ((S.bays.take k).map BayM.disk) * (ownAt 3 1 (.slice s2 S.bays.length sc2) S.bays.length (S.bays.map stV) * O')))) W5 (H1.out.2.perm (by rw [hO'.out]; ac_rfl))).mono fun e w' h => by
          obtain ⟨q1, rfl, hX⟩ := h
          obtain ⟨h1, h2⟩ := hX.out
          exact ⟨_, rfl, q1, rfl, H1.out.1.trans h1, h2.perm (by rw [hO'.out]; ac_rfl)⟩) ?_
      rintro _ w3 ⟨q1, rfl, H3⟩
      have HRD := Lib.hid (show ∀ (W : World) (X : HProp), Sat W (X * O) → W.cell? ⟨p, 6, none⟩ = some (.slice (some ⟨g, 0, none⟩) S.bays.length bc) ∧ W.cell? ⟨g, k, none⟩ = some (.pointer (some ⟨pq, 0, none⟩)) from fun W X h => by
        have h1 := h.right
        rw [← hO.out] at h1
        obtain ⟨⟨d6, _, d8, _, _⟩, _, _⟩ := rshP_cells h1
        obtain ⟨g', gc', pq', R', e1, cg', _, e2⟩ := rshP_bay h1 HL.out.2.1 HB.out.1
        simp only [Value.slice.injEq, Option.some.injEq, Addr.mk.injEq, and_true, true_and] at e1
        obtain ⟨rfl, rfl⟩ := e1
        obtain rfl := Option.some.inj (HB.out.2.2.2.symm.trans e2)
        exact ⟨d6, cg'⟩)
      have hS3 : w3.cell? ⟨q, 6, none⟩ = some vb2 ∧ w3.cell? ⟨p, 6, none⟩ = some (.slice (some ⟨g, 0, none⟩) S.bays.length bc) ∧ w3.cell? ⟨g, k, none⟩ = some (.pointer (some ⟨pq, 0, none⟩)) :=
        ⟨cells_at H3.out.2.block 6, HRD.out w3 (pts q (.cells (rsC S.cfg vb2 (.slice s2 S.bays.length sc2) (.slice none 0 0) (!S.off) S.rleft) TRsh (0, 0)) * (ownAt TRp 1 vb2 k (rs.map ptrV) * (refsT RT rs ((S.bays.take k).map BayM.disk) * (ownAt 3 1 (.slice s2 S.bays.length sc2) S.bays.length (S.bays.map stV) * refD RT q1 b.disk)))) (H3.out.2.perm (by ac_rfl))⟩
      refine ⟨hS3, ?_⟩
      simp only [List.setIfInBounds_toArray, List.set_cons_succ, List.set_cons_zero]
      have hA4 := H3.out.2.alloc (.cells #[.pointer (some ⟨q1, 0, none⟩)] TRp)
      have hS4 : (w3.alloc (.cells #[.pointer (some ⟨q1, 0, none⟩)] TRp)).cell? ⟨q, 6, none⟩ = some vb2 ∧ (w3.alloc (.cells #[.pointer (some ⟨q1, 0, none⟩)] TRp)).cell? ⟨p, 6, none⟩ = some (.slice (some ⟨g, 0, none⟩) S.bays.length bc) ∧ (w3.alloc (.cells #[.pointer (some ⟨q1, 0, none⟩)] TRp)).cell? ⟨g, k, none⟩ = some (.pointer (some ⟨pq, 0, none⟩)) :=
        ⟨cells_at hA4.right.block 6, HRD.out _ (pts w3.heap.size (.cells #[.pointer (some ⟨q1, 0, none⟩)] TRp (0, 0)) * (pts q (.cells (rsC S.cfg vb2 (.slice s2 S.bays.length sc2) (.slice none 0 0) (!S.off) S.rleft) TRsh (0, 0)) * (ownAt TRp 1 vb2 k (rs.map ptrV) * (refsT RT rs ((S.bays.take k).map BayM.disk) * (ownAt 3 1 (.slice s2 S.bays.length sc2) S.bays.length (S.bays.map stV) * refD RT q1 b.disk))))) (hA4.perm (by ac_rfl))⟩
      refine reg_run 13 (.slice (some ⟨w3.heap.size, 0, none⟩) 1 1) (w3.alloc (.cells #[.pointer (some ⟨q1, 0, none⟩)] TRp)) rfl rfl (by decide +kernel) rfl (by go_simp) (hS4) ?_; simp only [List.setIfInBounds_toArray, List.set_cons_succ, List.set_cons_zero]
      obtain ⟨ti, hti, hz0, hts, hz2⟩ := info_parts info_Rp
      have hA5 := hA4.perm (show _ = ownAt TRp 1 vb2 k (rs.map ptrV) * (pts w3.heap.size (.cells #[.pointer (some ⟨q1, 0, none⟩)] TRp (0, 0)) * (pts q (.cells (rsC S.cfg vb2 (.slice s2 S.bays.length sc2) (.slice none 0 0) (!S.off) S.rleft) TRsh (0, 0)) * (refsT RT rs ((S.bays.take k).map BayM.disk) * (ownAt 3 1 (.slice s2 S.bays.length sc2) S.bays.length (S.bays.map stV) * (refD RT q1 b.disk * O))))) from by ac_rfl)
      obtain ⟨v', w6, hr, hsm6, hs6⟩ := run_append_ownAt (P := Tryz.prog) 64 64 TRp ti _ Tryz.underlying64 hti hz0 (by rw [hts]; rfl) vb2 k (rs.map ptrV) (by rw [hts]; exact hA5) ⟨w3.heap.size, 0, none⟩ 1 1 [.pointer (some ⟨q1, 0, none⟩)] (by rw [hts]; rfl)
        (by intro j u hu; rw [Addr.add_mid, cells_at hA5.right.block, Nat.zero_add]; simpa using hu) (by simp [Value.oneCell']) (by unfold maxLen; omega) (by rw [hz2]; omega)
      rw [hts] at hs6
      obtain ⟨ao', cap', rfl⟩ := ownAt_slice hs6
      have hA6 := hs6.perm (show _ = pts q (.cells (rsC S.cfg vb2 (.slice s2 S.bays.length sc2) (.slice none 0 0) (!S.off) S.rleft) TRsh (0, 0)) * (ownAt TRp 1 (.slice ao' (k + 1) cap') (k + 1) (rs.map ptrV ++ [.pointer (some ⟨q1, 0, none⟩)]) * (pts w3.heap.size (.cells #[.pointer (some ⟨q1, 0, none⟩)] TRp (0, 0)) * (refsT RT rs ((S.bays.take k).map BayM.disk) * (ownAt 3 1 (.slice s2 S.bays.length sc2) S.bays.length (S.bays.map stV) * (refD RT q1 b.disk * O))))) from by ac_rfl)
      have hS6 : w6.cell? ⟨q, 6, none⟩ = some vb2 ∧ w6.cell? ⟨p, 6, none⟩ = some (.slice (some ⟨g, 0, none⟩) S.bays.length bc) ∧ w6.cell? ⟨g, k, none⟩ = some (.pointer (some ⟨pq, 0, none⟩)) :=
        ⟨cells_at hA6.block 6, HRD.out _ (pts q (.cells (rsC S.cfg vb2 (.slice s2 S.bays.length sc2) (.slice none 0 0) (!S.off) S.rleft) TRsh (0, 0)) * (ownAt TRp 1 (.slice ao' (k + 1) cap') (k + 1) (rs.map ptrV ++ [.pointer (some ⟨q1, 0, none⟩)]) * (pts w3.heap.size (.cells #[.pointer (some ⟨q1, 0, none⟩)] TRp (0, 0)) * (refsT RT rs ((S.bays.take k).map BayM.disk) * (ownAt 3 1 (.slice s2 S.bays.length sc2) S.bays.length (S.bays.map stV) * refD RT q1 b.disk))))) (hA6.perm (by ac_rfl))⟩
      refine reg_run 14 (.slice ao' (k + 1) cap') (w6) rfl rfl (by decide +kernel) rfl (exec_append rfl rfl rfl hr) (hS6) ?_; simp only [List.setIfInBounds_toArray, List.set_cons_succ, List.set_cons_zero]
      (apply reg_take 15 rfl rfl (by decide +kernel) rfl); (rintro w' ⟨h1, h2, h3⟩; go_simp; rfl); exact hS6; simp only [List.setIfInBounds_toArray, List.set_cons_succ, List.set_cons_zero]
      (apply reg_take 16 rfl rfl (by decide +kernel) rfl); (rintro w' ⟨h1, h2, h3⟩; go_simp; rfl); exact hS6; simp only [List.setIfInBounds_toArray, List.set_cons_succ, List.set_cons_zero]
      obtain ⟨ip, hip, hip2⟩ := Option.map_eq_some_iff.1 (show (Tryz.prog.info? 64).map (·.size) = some 1 by kernel_rfl)
      refine reg_do_last 17 (w6.setCell ⟨q, 6, none⟩ (.slice ao' (k + 1) cap')) rfl rfl (by decide +kernel) rfl (exec_store_cell rfl rfl rfl hip hip2 rfl hS6.1 (thawed_at hA6.block 6)) ?_
      have H7 := Lib.hid (show Same w (w6.setCell ⟨q, 6, none⟩ (.slice ao' (k + 1) cap')) ∧ Sat (w6.setCell ⟨q, 6, none⟩ (.slice ao' (k + 1) cap')) (pts q (.cells (rsC S.cfg (.slice ao' (k + 1) cap') (.slice s2 S.bays.length sc2) (.slice none 0 0) (!S.off) S.rleft) TRsh (0, 0)) * (ownAt TRp 1 (.slice ao' (k + 1) cap') (k + 1) ((rs ++ [q1]).map ptrV) * (refsT RT (rs ++ [q1]) ((S.bays.take (k + 1)).map BayM.disk) * (ownAt 3 1 (.slice s2 S.bays.length sc2) S.bays.length (S.bays.map stV) * O)))) from
        ⟨((H3.out.1.alloc _).trans hsm6).setCell _ _, by
          have h9 := hA6.setCell (i := 6) (.slice ao' (k + 1) cap')
          rw [show (rsC S.cfg vb2 (.slice s2 S.bays.length sc2) (.slice none 0 0) (!S.off) S.rleft).setIfInBounds 6 (.slice ao' (k + 1) cap') = rsC S.cfg (.slice ao' (k + 1) cap') (.slice s2 S.bays.length sc2) (.slice none 0 0) (!S.off) S.rleft from rfl] at h9
          rw [take_bays HB.out.1, show (S.bays.take k ++ [b]).map BayM.disk = (S.bays.take k).map BayM.disk ++ [b.disk] from by rw [List.map_append]; rfl, refsT_app _ _ _ _ (by rw [HB.out.2.2.1, List.length_map, List.length_take]; have := HB.out.2.1; omega), List.map_append]
          refine (h9.perm (show _ = pts w3.heap.size (.cells #[.pointer (some ⟨q1, 0, none⟩)] TRp (0, 0)) * _ from ?_)).right
          show _ = _ * (pts q _ * (ownAt TRp 1 _ _ (_ ++ [.pointer (some ⟨q1, 0, none⟩)]) * _))
          ac_rfl⟩)
      clear hS0 hS3 hS4 hS6 hA4 hA5 hA6 hs6 hr hsm6 hti hz0 hts hz2 hip hip2 ip H3 H1 HRD
      generalize w6.setCell ⟨q, 6, none⟩ (.slice ao' (k + 1) cap') = W7 at H7 ⊢
      go_wp2
      go_roundw
      case rel => exact ⟨⟨k + 1, rs ++ [q1], .slice ao' (k + 1) cap', HB.out.2.1, rfl, by rw [List.length_append, HB.out.2.2.1]; rfl, H7.out⟩⟩
      case measure => have := HB.out.2.1; simp only [intOf]; omega
    case neg =>
      obtain rfl : k = S.bays.length := by omega
      have hltd : decide ((S.bays.length : Int) < (S.bays.length : Int)) = false := decide_eq_false (by omega)
      have hltd2 : decide (S.bays.length < S.bays.length) = false := decide_eq_false (by omega)
      obtain ⟨Z, hZ⟩ : ∃ Z, Hid (ownAt TRp 1 vb2 S.bays.length (rs.map ptrV) * (refsT RT rs (S.bays.map BayM.disk) * ownAt 3 1 (.slice s2 S.bays.length sc2) S.bays.length (S.bays.map stV)) = Z) := ⟨_, Lib.hid rfl⟩
      have H2 := Lib.hid (show RclSt2 w q S vb2 (.slice s2 S.bays.length sc2) (Z * O) (.int .i64 0) wr from ⟨0, [], .slice none 0 0, Nat.zero_le _, rfl, rfl, H1.out.1, by
        have h := H1.out.2
        rw [List.take_length] at h
        have h9 : Sat wr (ownAt TRp 1 (.slice none 0 0) 0 [] * _) := ownAt_nil.2 h
        rw [← hZ.out]
        exact h9.perm (by show _ = pts q _ * (ownAt TRp 1 _ 0 [] * (emp * _)); rw [emp_star]; ac_rfl)⟩)
      have HRS := Lib.hid hrs
      clear H1 hk hlt hrs hOp
      go_upto_region 8 with (fail)
      clear c6 c8 hltd hltd2
      go_loopw [5] (fun i wr => RclSt2 w q S vb2 (.slice s2 S.bays.length sc2) (Z * O) i wr) (fun i _ => S.images.length - (intOf i).toNat)
      case atStart => exact H2.out
      case round =>
        clear H2
        obtain ⟨k, rs2, vi2, hk, rfl, hrs, H1⟩ := hrel.st
        clear hrel
        have hk64 : (k : Int) ≤ 1000000 := by omega
        have hOp : Sat wr (rshP p S (.slice bo S.bays.length bc) (.slice (some ⟨gs, 0, none⟩) S.bays.length sc) (.slice io S.images.length ic) ps qs F) := by rw [hO.out]; exact H1.out.2.right.right.right.right
        obtain ⟨⟨c6, _, c8, _, _⟩, _, _⟩ := rshP_cells hOp
        by_cases hlt : k < S.images.length
        case pos =>
          obtain ⟨b, hb⟩ : ∃ b, S.images[k]? = some b := ⟨_, List.getElem?_eq_getElem hlt⟩
          obtain ⟨g, gc, pq, R, hbo, cg, hR, hpq⟩ := rshP_img hOp HL.out.2.2 hb
          simp only [Value.slice.injEq, true_and] at hbo
          obtain ⟨rfl, rfl⟩ := hbo
          have hltd : decide ((k : Int) < (S.images.length : Int)) = true := decide_eq_true (by omega)
          have hkn : (k : Int) < (S.images.length : Int) := by omega
          have hk0 : (0 : Int) ≤ (k : Int) := by omega
          have hwk : IntKind.i64.wrap ((k : Int) + 1) = (k : Int) + 1 := IntWalk.i64_in _ (by omega)
          have HB := Lib.hid (And.intro hb (And.intro hlt (And.intro hrs hpq)))
          obtain ⟨O', hO'⟩ : ∃ O', Hid (O = refD RT pq b * O') := ⟨_, Lib.hid (hO.out.symm.trans (rshP_imgD hR))⟩
          clear hOp hb hR hk hrs hpq
          go_upto_region 10 with (fail)
          have hS0 : wr.drew.cell? ⟨q, 8, none⟩ = some vi2 ∧ wr.drew.cell? ⟨p, 8, none⟩ = some (.slice (some ⟨g, 0, none⟩) S.images.length ic) ∧ wr.drew.cell? ⟨g, k, none⟩ = some (.pointer (some ⟨pq, 0, none⟩)) := ⟨cells_at H1.out.2.block 8, c8, cg⟩
          refine reg_begin (fun w' => w'.cell? ⟨q, 8, none⟩ = some vi2 ∧ w'.cell? ⟨p, 8, none⟩ = some (.slice (some ⟨g, 0, none⟩) S.images.length ic) ∧ w'.cell? ⟨g, k, none⟩ = some (.pointer (some ⟨pq, 0, none⟩))) (by kernel_rfl) ?_
          replace H1 := Lib.hid (And.intro H1.out.1.drew H1.out.2.drew)
          clear c6 c8 cg
          generalize wr.drew = W5 at hS0 H1 ⊢
          (apply reg_take 0 rfl rfl (by decide +kernel) rfl); (rintro w' ⟨h1, h2, h3⟩; go_simp; rfl); exact hS0; simp only [List.setIfInBounds_toArray, List.set_cons_succ, List.set_cons_zero]
          (apply reg_take 1 rfl rfl (by decide +kernel) rfl); (rintro w' ⟨h1, h2, h3⟩; go_simp; rfl); exact hS0; simp only [List.setIfInBounds_toArray, List.set_cons_succ, List.set_cons_zero]
          (apply reg_take 2 rfl rfl (by decide +kernel) rfl); (rintro w' ⟨h1, h2, h3⟩; go_simp; rfl); exact hS0; simp only [List.setIfInBounds_toArray, List.set_cons_succ, List.set_cons_zero]
          (apply reg_take 3 rfl rfl (by decide +kernel) rfl); (rintro w' ⟨h1, h2, h3⟩; go_simp; rfl); exact hS0; simp only [List.setIfInBounds_toArray, List.set_cons_succ, List.set_cons_zero]
          (apply reg_take 4 rfl rfl (by decide +kernel) rfl); (rintro w' ⟨h1, h2, h3⟩; go_simp; rfl); exact hS0; simp only [List.setIfInBounds_toArray, List.set_cons_succ, List.set_cons_zero]
          (apply reg_take 5 rfl rfl (by decide +kernel) rfl); (rintro w' ⟨h1, h2, h3⟩; go_simp; rfl); exact hS0; simp only [List.setIfInBounds_toArray, List.set_cons_succ, List.set_cons_zero]
          (apply reg_take 6 rfl rfl (by decide +kernel) rfl); (rintro w' ⟨h1, h2, h3⟩; go_simp; rfl); exact hS0; simp only [List.setIfInBounds_toArray, List.set_cons_succ, List.set_cons_zero]
          (apply reg_take 7 rfl rfl (by decide +kernel) rfl); (rintro w' ⟨h1, h2, h3⟩; go_simp; rfl); exact hS0; simp only [List.setIfInBounds_toArray, List.set_cons_succ, List.set_cons_zero]
          (apply reg_take 8 rfl rfl (by decide +kernel) rfl); (rintro w' ⟨h1, h2, h3⟩; go_simp; rfl); exact hS0; simp only [List.setIfInBounds_toArray, List.set_cons_succ, List.set_cons_zero]
          (apply reg_take 9 rfl rfl (by decide +kernel) rfl); (rintro w' ⟨h1, h2, h3⟩; go_simp; rfl); exact hS0; simp only [List.setIfInBounds_toArray, List.set_cons_succ, List.set_cons_zero]
          (apply reg_take 10 rfl rfl (by decide +kernel) rfl); (rintro w' ⟨h1, h2, h3⟩; go_simp; rfl); exact hS0; simp only [List.setIfInBounds_toArray, List.set_cons_succ, List.set_cons_zero]
          (apply reg_take 11 rfl rfl (by decide +kernel) rfl); (rintro w' ⟨h1, h2, h3⟩; go_simp; rfl); exact hS0; simp only [List.setIfInBounds_toArray, List.set_cons_succ, List.set_cons_zero]
          refine reg_call 12 rfl rfl (by decide +kernel) rfl (f := 25) (args := #[.pointer (some ⟨pq, 0, none⟩)]) (R := fun v w' => ∃ q1, v = .pointer (some ⟨q1, 0, none⟩) ∧ Hid (Same w w' ∧ Sat w' (pts q (.cells (rsC S.cfg vb2 (.slice s2 S.bays.length sc2) vi2 (!S.off) S.rleft) TRsh (0, 0)) * (ownAt TRp 1 vi2 k (rs2.map ptrV) * (refsT RT rs2 (S.images.take k) * (Z * (refD RT q1 b * O))))))) (by kernel_rfl)
            ((rclone16_any pq b (pts q (.cells (rsC S.cfg vb2 (.slice s2 S.bays.length sc2) vi2 (!S.off) S.rleft) TRsh (0, 0)) * (ownAt TRp 1 vi2 k (rs2.map ptrV) * (refsT RT rs2 (S.images.take k) * (Z * O')))) W5 (H1.out.2.perm (by rw [hO'.out]; ac_rfl))).mono fun e w' h => by
              obtain ⟨q1, rfl, hX⟩ := h
              obtain ⟨h1, h2⟩ := hX.out
              exact ⟨_, rfl, q1, rfl, H1.out.1.trans h1, h2.perm (by rw [hO'.out]; ac_rfl)⟩) ?_
          rintro _ w3 ⟨q1, rfl, H3⟩
          have HRD := Lib.hid (show ∀ (W : World) (X : HProp), Sat W (X * O) → W.cell? ⟨p, 8, none⟩ = some (.slice (some ⟨g, 0, none⟩) S.images.length ic) ∧ W.cell? ⟨g, k, none⟩ = some (.pointer (some ⟨pq, 0, none⟩)) from fun W X h => by
            have h1 := h.right
            rw [← hO.out] at h1
            obtain ⟨⟨d6, _, d8, _, _⟩, _, _⟩ := rshP_cells h1
            obtain ⟨g', gc', pq', R', e1, cg', _, e2⟩ := rshP_img h1 HL.out.2.2 HB.out.1
            simp only [Value.slice.injEq, Option.some.injEq, Addr.mk.injEq, and_true, true_and] at e1
            obtain ⟨rfl, rfl⟩ := e1
            obtain rfl := Option.some.inj (HB.out.2.2.2.symm.trans e2)
            exact ⟨d8, cg'⟩)
          have hS3 : w3.cell? ⟨q, 8, none⟩ = some vi2 ∧ w3.cell? ⟨p, 8, none⟩ = some (.slice (some ⟨g, 0, none⟩) S.images.length ic) ∧ w3.cell? ⟨g, k, none⟩ = some (.pointer (some ⟨pq, 0, none⟩)) :=
            ⟨cells_at H3.out.2.block 8, HRD.out w3 (pts q (.cells (rsC S.cfg vb2 (.slice s2 S.bays.length sc2) vi2 (!S.off) S.rleft) TRsh (0, 0)) * (ownAt TRp 1 vi2 k (rs2.map ptrV) * (refsT RT rs2 (S.images.take k) * (Z * refD RT q1 b)))) (H3.out.2.perm (by ac_rfl))⟩
          refine ⟨hS3, ?_⟩
          simp only [List.setIfInBounds_toArray, List.set_cons_succ, List.set_cons_zero]
          have hA4 := H3.out.2.alloc (.cells #[.pointer (some ⟨q1, 0, none⟩)] TRp)
          have hS4 : (w3.alloc (.cells #[.pointer (some ⟨q1, 0, none⟩)] TRp)).cell? ⟨q, 8, none⟩ = some vi2 ∧ (w3.alloc (.cells #[.pointer (some ⟨q1, 0, none⟩)] TRp)).cell? ⟨p, 8, none⟩ = some (.slice (some ⟨g, 0, none⟩) S.images.length ic) ∧ (w3.alloc (.cells #[.pointer (some ⟨q1, 0, none⟩)] TRp)).cell? ⟨g, k, none⟩ = some (.pointer (some ⟨pq, 0, none⟩)) :=
            ⟨cells_at hA4.right.block 8, HRD.out _ (pts w3.heap.size (.cells #[.pointer (some ⟨q1, 0, none⟩)] TRp (0, 0)) * (pts q (.cells (rsC S.cfg vb2 (.slice s2 S.bays.length sc2) vi2 (!S.off) S.rleft) TRsh (0, 0)) * (ownAt TRp 1 vi2 k (rs2.map ptrV) * (refsT RT rs2 (S.images.take k) * (Z * refD RT q1 b))))) (hA4.perm (by ac_rfl))⟩
          refine reg_run 13 (.slice (some ⟨w3.heap.size, 0, none⟩) 1 1) (w3.alloc (.cells #[.pointer (some ⟨q1, 0, none⟩)] TRp)) rfl rfl (by decide +kernel) rfl (by go_simp) (hS4) ?_; simp only [List.setIfInBounds_toArray, List.set_cons_succ, List.set_cons_zero]
          obtain ⟨ti, hti, hz0, hts, hz2⟩ := info_parts info_Rp
          have hA5 := hA4.perm (show _ = ownAt TRp 1 vi2 k (rs2.map ptrV) * (pts w3.heap.size (.cells #[.pointer (some ⟨q1, 0, none⟩)] TRp (0, 0)) * (pts q (.cells (rsC S.cfg vb2 (.slice s2 S.bays.length sc2) vi2 (!S.off) S.rleft) TRsh (0, 0)) * (refsT RT rs2 (S.images.take k) * (Z * (refD RT q1 b * O))))) from by ac_rfl)
          obtain ⟨v', w6, hr, hsm6, hs6⟩ := run_append_ownAt (P := Tryz.prog) 64 64 TRp ti _ Tryz.underlying64 hti hz0 (by rw [hts]; rfl) vi2 k (rs2.map ptrV) (by rw [hts]; exact hA5) ⟨w3.heap.size, 0, none⟩ 1 1 [.pointer (some ⟨q1, 0, none⟩)] (by rw [hts]; rfl)
            (by intro j u hu; rw [Addr.add_mid, cells_at hA5.right.block, Nat.zero_add]; simpa using hu) (by simp [Value.oneCell']) (by unfold maxLen; omega) (by rw [hz2]; omega)
          rw [hts] at hs6
          obtain ⟨ao', cap', rfl⟩ := ownAt_slice hs6
          have hA6 := hs6.perm (show _ = pts q (.cells (rsC S.cfg vb2 (.slice s2 S.bays.length sc2) vi2 (!S.off) S.rleft) TRsh (0, 0)) * (ownAt TRp 1 (.slice ao' (k + 1) cap') (k + 1) (rs2.map ptrV ++ [.pointer (some ⟨q1, 0, none⟩)]) * (pts w3.heap.size (.cells #[.pointer (some ⟨q1, 0, none⟩)] TRp (0, 0)) * (refsT RT rs2 (S.images.take k) * (Z * (refD RT q1 b * O))))) from by ac_rfl)
          have hS6 : w6.cell? ⟨q, 8, none⟩ = some vi2 ∧ w6.cell? ⟨p, 8, none⟩ = some (.slice (some ⟨g, 0, none⟩) S.images.length ic) ∧ w6.cell? ⟨g, k, none⟩ = some (.pointer (some ⟨pq, 0, none⟩)) :=
            ⟨cells_at hA6.block 8, HRD.out _ (pts q (.cells (rsC S.cfg vb2 (.slice s2 S.bays.length sc2) vi2 (!S.off) S.rleft) TRsh (0, 0)) * (ownAt TRp 1 (.slice ao' (k + 1) cap') (k + 1) (rs2.map ptrV ++ [.pointer (some ⟨q1, 0, none⟩)]) * (pts w3.heap.size (.cells #[.pointer (some ⟨q1, 0, none⟩)] TRp (0, 0)) * (refsT RT rs2 (S.images.take k) * (Z * refD RT q1 b))))) (hA6.perm (by ac_rfl))⟩
          refine reg_run 14 (.slice ao' (k + 1) cap') (w6) rfl rfl (by decide +kernel) rfl (exec_append rfl rfl rfl hr) (hS6) ?_; simp only [List.setIfInBounds_toArray, List.set_cons_succ, List.set_cons_zero]
          (apply reg_take 15 rfl rfl (by decide +kernel) rfl); (rintro w' ⟨h1, h2, h3⟩; go_simp; rfl); exact hS6; simp only [List.setIfInBounds_toArray, List.set_cons_succ, List.set_cons_zero]
          (apply reg_take 16 rfl rfl (by decide +kernel) rfl); (rintro w' ⟨h1, h2, h3⟩; go_simp; rfl); exact hS6; simp only [List.setIfInBounds_toArray, List.set_cons_succ, List.set_cons_zero]
          obtain ⟨ip, hip, hip2⟩ := Option.map_eq_some_iff.1 (show (Tryz.prog.info? 64).map (·.size) = some 1 by kernel_rfl)
          refine reg_do_last 17 (w6.setCell ⟨q, 8, none⟩ (.slice ao' (k + 1) cap')) rfl rfl (by decide +kernel) rfl (exec_store_cell rfl rfl rfl hip hip2 rfl hS6.1 (thawed_at hA6.block 8)) ?_
          have H7 := Lib.hid (show Same w (w6.setCell ⟨q, 8, none⟩ (.slice ao' (k + 1) cap')) ∧ Sat (w6.setCell ⟨q, 8, none⟩ (.slice ao' (k + 1) cap')) (pts q (.cells (rsC S.cfg vb2 (.slice s2 S.bays.length sc2) (.slice ao' (k + 1) cap') (!S.off) S.rleft) TRsh (0, 0)) * (ownAt TRp 1 (.slice ao' (k + 1) cap') (k + 1) ((rs2 ++ [q1]).map ptrV) * (refsT RT (rs2 ++ [q1]) (S.images.take (k + 1)) * (Z * O)))) from
            ⟨((H3.out.1.alloc _).trans hsm6).setCell _ _, by
              have h9 := hA6.setCell (i := 8) (.slice ao' (k + 1) cap')
              rw [show (rsC S.cfg vb2 (.slice s2 S.bays.length sc2) vi2 (!S.off) S.rleft).setIfInBounds 8 (.slice ao' (k + 1) cap') = rsC S.cfg vb2 (.slice s2 S.bays.length sc2) (.slice ao' (k + 1) cap') (!S.off) S.rleft from rfl] at h9
              rw [take_bays HB.out.1, refsT_app _ _ _ _ (by rw [HB.out.2.2.1, List.length_take]; have := HB.out.2.1; omega), List.map_append]
              refine (h9.perm (show _ = pts w3.heap.size (.cells #[.pointer (some ⟨q1, 0, none⟩)] TRp (0, 0)) * _ from ?_)).right
              show _ = _ * (pts q _ * (ownAt TRp 1 _ _ (_ ++ [.pointer (some ⟨q1, 0, none⟩)]) * _))
              ac_rfl⟩)
          clear hS0 hS3 hS4 hS6 hA4 hA5 hA6 hs6 hr hsm6 hti hz0 hts hz2 hip hip2 ip H3 H1 HRD
          generalize w6.setCell ⟨q, 8, none⟩ (.slice ao' (k + 1) cap') = W7 at H7 ⊢
          go_wp2
          go_roundw
          case rel => exact ⟨⟨k + 1, rs2 ++ [q1], .slice ao' (k + 1) cap', HB.out.2.1, rfl, by rw [List.length_append, HB.out.2.2.1]; rfl, H7.out⟩⟩
          case measure => have := HB.out.2.1; simp only [intOf]; omega
        case neg =>
          obtain rfl : k = S.images.length := by omega
          have hltd : decide ((S.images.length : Int) < (S.images.length : Int)) = false := decide_eq_false (by omega)
          have hltd2 : decide (S.images.length < S.images.length) = false := decide_eq_false (by omega)
          have HRS2 := Lib.hid hrs
          clear hk hlt hrs hOp c6
          go_wp2
          go_ret
          refine ⟨q, rfl, H1.out.1, ?_⟩
          have h := H1.out.2
          rw [List.take_length, ← hZ.out, ← hO.out] at h
          have h2 := rshP_at HL.out (h.perm (show _ = rshP p S (.slice bo S.bays.length bc) (.slice (some ⟨gs, 0, none⟩) S.bays.length sc) (.slice io S.images.length ic) ps qs (F * (pts q (.cells (rsC S.cfg vb2 (.slice s2 S.bays.length sc2) vi2 (!S.off) S.rleft) TRsh (0, 0)) * (ownAt TRp 1 vb2 S.bays.length (rs.map ptrV) * (ownAt 3 1 (.slice s2 S.bays.length sc2) S.bays.length (S.bays.map stV) * (ownAt TRp 1 vi2 S.images.length (rs2.map ptrV) * (refsT RT rs (S.bays.map BayM.disk) * refsT RT rs2 S.images)))))) from by unfold rshP; ac_rfl))
          refine rshAt_iff.2 ⟨vb2, .slice s2 S.bays.length sc2, vi2, rs, rs2, ⟨HL.out.1, HRS.out, HRS2.out⟩, h2.perm ?_⟩
          show _ = pts q (.cells (rsC S.cfg vb2 (.slice s2 S.bays.length sc2) vi2 (!S.off) S.rleft) TRsh (0, 0)) * (ownAt TRp 1 vb2 S.bays.length (rs.map ptrV) * (ownAt 3 1 (.slice s2 S.bays.length sc2) S.bays.length (S.bays.map stV) * (ownAt TRp 1 vi2 S.images.length (rs2.map ptrV) * (refsT RT rs (S.bays.map BayM.disk) * (refsT RT rs2 S.images * (rshAt RS p S * F))))))
          ac_rfl
end Go.Proofs.YtogmkbhbmmgidaaGreat
