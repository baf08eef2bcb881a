/- shelf.Insert. -/
import Derived.Test.YtogmkbhbmmgidaaSq
import Derived.Test.YtogmkbhbmmgidaaDc
namespace Go.Proofs.Ytogmkbhbmmgidaa
open Go.RowKit Go.Sl Go.ChangeMaps

/-- One image in hand. -/
theorem images_split {TD TS : TypeId} {qs : List Nat} {Ds : List DiskM} {k : Nat} {q : Nat} {D : DiskM} (hq : qs[k]? = some q) (hD : Ds[k]? = some D) : ∃ R, disksAt TD TS qs Ds = diskAt TD TS q D * R := by
  obtain ⟨R, hR⟩ := disksAt_split (TD := TD) (TS := TS) qs Ds k (List.getElem?_eq_some_iff.1 hq).1 (List.getElem?_eq_some_iff.1 hD).1
  exact ⟨R, by have := hR q D; rwa [set_self hq, set_self hD] at this⟩

set_option maxRecDepth 100000 in
set_option maxHeartbeats 2000000 in
theorem insert_any (p : Nat) (S : ShelfM) (F : HProp) (d im : Int) (w : World) (hS : Sat w (shelfAt SH p S * F)) :
    Calls Try.prog 28 #[.pointer (some ⟨p, 0, none⟩), .int .i64 d, .int .i64 im] w fun e w' => e = .returned (.int .i64 (S.insert d im).2) ∧ Hid (Same w w' ∧ Sat w' (shelfAt SH p (S.insert d im).1 * F)) := by
  have hwf := shelfAt_wf hS
  have hwant := want_any p S F d false 19 w hS
  have hi : S.insert d im = if S.state d = 0 then (S, 1) else if im < 0 ∨ (S.images.length : Int) ≤ im then (S, 12) else if S.state d = 1 then (S, 19) else (S.setBay d ⟨S.images.getD im.toNat ShelfM.d0, 1⟩, 0) := rfl
  have hw : S.want d false 19 = if S.state d = 0 then 1 else if S.state d = 1 then 19 else 0 := by
    unfold ShelfM.want
    by_cases h0 : S.state d = 0
    · rw [if_pos h0, if_pos h0]
    · rw [if_neg h0, if_neg h0]
      by_cases h1 : S.state d = 1
      · rw [if_pos h1, if_pos (by simp [h1])]
      · rw [if_neg h1, if_neg (by simp [h1])]
  have HS := Lib.hid hS
  by_cases h0 : S.state d = 0
  · rw [if_pos h0] at hi hw
    rw [hi]
    rw [hw] at hwant
    clear hi hw h0 hwf hS
    go_enter Try.func28, Try.ntmps28
    go_wp2_with (go_at_call 55; refine hwant.mono ?_; rintro e w' ⟨rfl, rfl⟩; clear hwant)
    go_ret
    exact ⟨rfl, Same.refl w, HS.out⟩
  rw [if_neg h0] at hi hw
  obtain ⟨vb, vi, ps, qs, ⟨_, hl1, hl2⟩, hs⟩ := shelfAt_iff.1 hS
  obtain ⟨⟨q6, q7, q8, q9, q10⟩, hp, hfp, hra⟩ := shelf_cells hs
  obtain ⟨ai, ci, rfl⟩ := ownAt_slice (hs.right.right)
  obtain ⟨x, hx⟩ : ∃ x, S.want d false 19 = x := ⟨_, rfl⟩
  rw [hx] at hwant hw
  have hx1 : (x == 1) = false := by rw [hw]; split <;> decide
  obtain ⟨m, hm⟩ : ∃ m, S.images.length = m := ⟨_, rfl⟩
  rw [hm] at hi q7
  by_cases hb : im < 0 ∨ (m : Int) ≤ im
  · rw [if_pos hb] at hi
    rw [hi]
    clear hi hw h0 hwf hS hs hl1 hl2 hx hm hfp hra q6 q8 q9 q10
    by_cases hb0 : im < 0
    · have hbd : decide (im < 0) = true := decide_eq_true hb0
      clear hb hb0
      go_enter Try.func28, Try.ntmps28
      go_wp2_with (go_at_call 55; refine hwant.mono ?_; rintro e w' ⟨rfl, rfl⟩; clear hwant)
      go_ret
      exact ⟨rfl, Same.refl w, HS.out⟩
    · have hbd : decide (im < 0) = false := decide_eq_false hb0
      have hbd2 : decide ((m : Int) ≤ im) = true := decide_eq_true (by omega)
      clear hb hb0
      go_enter Try.func28, Try.ntmps28
      go_wp2_with (go_at_call 55; refine hwant.mono ?_; rintro e w' ⟨rfl, rfl⟩; clear hwant)
      go_ret
      exact ⟨rfl, Same.refl w, HS.out⟩
  rw [if_neg hb] at hi
  have hbd : decide (im < 0) = false := decide_eq_false (by omega)
  have hbd2 : decide ((m : Int) ≤ im) = false := decide_eq_false (by omega)
  by_cases h1 : S.state d = 1
  · rw [if_pos h1] at hi hw
    rw [hi]
    subst hw
    clear hi h0 hwf hS hs hl1 hl2 hx hm hfp hra q6 q8 q9 q10 h1 hb
    go_enter Try.func28, Try.ntmps28
    go_wp2_with (go_at_call 55; refine hwant.mono ?_; rintro e w' ⟨rfl, rfl⟩; clear hwant)
    go_ret
    exact ⟨rfl, Same.refl w, HS.out⟩
  rw [if_neg h1] at hi hw
  rw [hi]
  subst hw
  have hin := ShelfM.state_in hwf h0
  obtain ⟨k, rfl⟩ := Int.eq_ofNat_of_zero_le hin.1
  obtain ⟨ii, rfl⟩ := Int.eq_ofNat_of_zero_le (show 0 ≤ im by omega)
  have hkl := hin.2
  have hil : ii < m := by omega
  clear hs hp hfp hra q6 q7 q8 q9 q10 hl1 hl2 hx
  obtain ⟨vb, vi, ps, qs, q, R, ⟨_, hl1, hl2⟩, hq, hs, hR⟩ := shelf_open hS (d := k) (by omega)
  have hs2 := hs.right
  obtain ⟨g, cap, cur, rfl, hg, hc, hf, hgs, _⟩ := ownAt_block hs2 (by omega)
  have hs3 := hs2.right
  obtain ⟨gi, capi, curi, rfl, hgi, hci, hfi, _, _⟩ := ownAt_block hs3 (by omega)
  have hbay := ShelfM.bay_of (S := S) hin.1 hin.2
  have hcell := baysL_at ps S.bays k q _ hq (by simpa using hbay)
  obtain ⟨qi, hqi⟩ : ∃ qi, qs[ii]? = some qi := ⟨_, List.getElem?_eq_getElem (by omega)⟩
  obtain ⟨Di, hDi⟩ : ∃ Di, S.images[ii]? = some Di := ⟨_, List.getElem?_eq_getElem (by omega)⟩
  obtain ⟨RI, hRI⟩ := images_split (TD := TD) (TS := TS) hqi hDi
  have hfacts : ∀ (w' : World) (X : HProp), Sat w' (pts p (.cells (shelfC S.cfg (.slice (some ⟨g, 0, none⟩) S.bays.length cap) (.slice (some ⟨gi, 0, none⟩) S.images.length capi) S.off S.fused S.left) TSh (0, 0)) * (ownAt TBay 2 (.slice (some ⟨g, 0, none⟩) S.bays.length cap) S.bays.length (baysL ps S.bays) * (ownAt TPtr 1 (.slice (some ⟨gi, 0, none⟩) S.images.length capi) S.images.length (qs.map ptrV) * X))) →
      w'.cell? ⟨p, 6, none⟩ = some (.slice (some ⟨g, 0, none⟩) S.bays.length cap) ∧ w'.cell? ⟨p, 7, none⟩ = some (.slice (some ⟨gi, 0, none⟩) m capi) ∧ w'.cell? ⟨gi, 0 + ii * 1, none⟩ = some (.pointer (some ⟨qi, 0, none⟩)) ∧ w'.there g (0 + k * 2) 2 := by
    intro w' X h
    have r := shelf_cells h
    refine ⟨r.1.1, by rw [← hm]; exact r.1.2.1, ?_, ?_⟩
    · obtain ⟨g', cap', cur', hv, _, hc', hf', _⟩ := ownAt_block h.right.right (by omega)
      simp only [Value.slice.injEq, Option.some.injEq, Addr.mk.injEq, and_true, true_and] at hv
      obtain ⟨rfl, rfl⟩ := hv
      rw [Nat.zero_add, Nat.mul_one]
      exact hc' ii _ (by rw [List.getElem?_map, hqi]; rfl)
    · intro j hj
      obtain ⟨g', cap', cur', hv, _, hc', hf', _⟩ := ownAt_block h.right (by omega)
      simp only [Value.slice.injEq, Option.some.injEq, Addr.mk.injEq, and_true, true_and] at hv
      obtain ⟨rfl, rfl⟩ := hv
      refine ⟨?_, hf' _⟩
      rcases (show j = 0 ∨ j = 1 by omega) with rfl | rfl
      · rw [show 0 + k * 2 + 0 = k * 2 by omega, hc' _ _ hcell.1]; rfl
      · rw [show 0 + k * 2 + 1 = k * 2 + 1 by omega, hc' _ _ hcell.2]; rfl
  rw [show TD = SH.disk from rfl, show TS = SH.sec from rfl] at hRI
  rw [hRI] at hs
  have f0 := hfacts _ _ hs
  have HFA := Lib.hid hfacts
  have HR := Lib.hid hR
  have HRI := Lib.hid hRI
  have HWF := Lib.hid hwf
  have HL := Lib.hid (And.intro hl1 hl2)
  have HDi := Lib.hid hDi
  have hcl := clone_any qi Di (pts p (.cells (shelfC S.cfg (.slice (some ⟨g, 0, none⟩) S.bays.length cap) (.slice (some ⟨gi, 0, none⟩) S.images.length capi) S.off S.fused S.left) TSh (0, 0)) * (ownAt TBay 2 (.slice (some ⟨g, 0, none⟩) S.bays.length cap) S.bays.length (baysL ps S.bays) * (ownAt TPtr 1 (.slice (some ⟨gi, 0, none⟩) S.images.length capi) S.images.length (qs.map ptrV) * (diskAt TD TS q (S.disk k) * (R * (RI * F)))))) w.drew (hs.drew.perm (by ac_rfl))
  obtain ⟨tib, htib⟩ : ∃ ti, Try.prog.info? TBay = some ti ∧ ti.size = 2 := by have := infoBay (ptrV 0) (ptrV 0); obtain ⟨ti, h1, h2⟩ := Option.map_eq_some_iff.1 this; exact ⟨ti, h1, h2⟩
  obtain ⟨tip, htip⟩ : ∃ ti, Try.prog.info? TPtr = some ti ∧ ti.size = 1 := Option.map_eq_some_iff.1 (show (Try.prog.info? TPtr).map (·.size) = some 1 by kernel_rfl)
  have htb := htib.1
  have htb2 := htib.2
  have htp := htip.1
  have htp2 := htip.2
  have q7 := f0.2.1
  have HM := Lib.hid hm
  clear hs hs2 hs3 hS hwf hi h1 h0 hin hl1 hl2 hq hc hf hgs hci hfi hbay hcell hR hfacts htib htip hqi hDi hRI hg hgi hb hm HS
  go_enter Try.func28, Try.ntmps28
  go_upto_region 7 with (go_at_call 55; refine hwant.mono ?_; rintro e w' ⟨rfl, rfl⟩; clear hwant)
  have hS0 : w.drew.cell? ⟨p, 6, none⟩ = some (.slice (some ⟨g, 0, none⟩) S.bays.length cap) ∧ w.drew.cell? ⟨p, 7, none⟩ = some (.slice (some ⟨gi, 0, none⟩) m capi) ∧ w.drew.cell? ⟨gi, 0 + ii * 1, none⟩ = some (.pointer (some ⟨qi, 0, none⟩)) ∧ w.drew.there g (0 + k * 2) 2 := f0
  refine reg_begin (fun w' => w'.cell? ⟨p, 6, none⟩ = some (.slice (some ⟨g, 0, none⟩) S.bays.length cap) ∧ w'.cell? ⟨p, 7, none⟩ = some (.slice (some ⟨gi, 0, none⟩) m capi) ∧ w'.cell? ⟨gi, 0 + ii * 1, none⟩ = some (.pointer (some ⟨qi, 0, none⟩)) ∧ w'.there g (0 + k * 2) 2) (by kernel_rfl) ?_
  (apply reg_take 0 rfl rfl (by decide +kernel) rfl); (rintro w' ⟨h1, h2, h3, h4⟩; go_simp; rfl); exact hS0; simp only [List.setIfInBounds_toArray, List.set_cons_succ, List.set_cons_zero]
  (apply reg_take 1 rfl rfl (by decide +kernel) rfl); (rintro w' ⟨h1, h2, h3, h4⟩; go_simp; rfl); exact hS0; simp only [List.setIfInBounds_toArray, List.set_cons_succ, List.set_cons_zero]
  (apply reg_take 2 rfl rfl (by decide +kernel) rfl); (rintro w' ⟨h1, h2, h3, h4⟩; go_simp; rfl); exact hS0; simp only [List.setIfInBounds_toArray, List.set_cons_succ, List.set_cons_zero]
  (apply reg_take 3 rfl rfl (by decide +kernel) rfl); (rintro w' ⟨h1, h2, h3, h4⟩; go_simp; rfl); exact hS0; simp only [List.setIfInBounds_toArray, List.set_cons_succ, List.set_cons_zero]
  (apply reg_take 4 rfl rfl (by decide +kernel) rfl); (rintro w' ⟨h1, h2, h3, h4⟩; go_simp; rfl); exact hS0; simp only [List.setIfInBounds_toArray, List.set_cons_succ, List.set_cons_zero]
  (apply reg_take 5 rfl rfl (by decide +kernel) rfl); (rintro w' ⟨h1, h2, h3, h4⟩; go_simp; rfl); exact hS0; simp only [List.setIfInBounds_toArray, List.set_cons_succ, List.set_cons_zero]
  (apply reg_take 6 rfl rfl (by decide +kernel) rfl); (rintro w' ⟨h1, h2, h3, h4⟩; go_simp; rfl); exact hS0; simp only [List.setIfInBounds_toArray, List.set_cons_succ, List.set_cons_zero]
  (apply reg_take 7 rfl rfl (by decide +kernel) rfl); (rintro w' ⟨h1, h2, h3, h4⟩; go_simp; rfl); exact hS0; simp only [List.setIfInBounds_toArray, List.set_cons_succ, List.set_cons_zero]
  (apply reg_take 8 rfl rfl (by decide +kernel) rfl); (rintro w' ⟨h1, h2, h3, h4⟩; go_simp; rfl); exact hS0; simp only [List.setIfInBounds_toArray, List.set_cons_succ, List.set_cons_zero]
  (apply reg_take 9 rfl rfl (by decide +kernel) rfl); (rintro w' ⟨h1, h2, h3, h4⟩; go_simp; rfl); exact hS0; simp only [List.setIfInBounds_toArray, List.set_cons_succ, List.set_cons_zero]
  refine reg_take 10 (v := .pointer (some ⟨gi, 0 + ii * 1, none⟩)) rfl rfl (by decide +kernel) rfl (fun _ _ => exec_index_slice rfl rfl rfl Try.underlying73 htp htp2 hil) hS0 ?_; simp only [List.setIfInBounds_toArray, List.set_cons_succ, List.set_cons_zero]
  refine reg_take 11 (v := .pointer (some ⟨qi, 0, none⟩)) rfl rfl (by decide +kernel) rfl (fun _ h => exec_load_cell rfl rfl Try.underlying76 rfl h.2.2.1) hS0 ?_; simp only [List.setIfInBounds_toArray, List.set_cons_succ, List.set_cons_zero]
  refine reg_call 12 rfl rfl (by decide +kernel) rfl (f := 54) (args := #[.pointer (some ⟨qi, 0, none⟩)]) (R := fun v w' => ∃ q', v = .pointer (some ⟨q', 0, none⟩) ∧ Hid (Same w w' ∧ Sat w' (pts p (.cells (shelfC S.cfg (.slice (some ⟨g, 0, none⟩) S.bays.length cap) (.slice (some ⟨gi, 0, none⟩) S.images.length capi) S.off S.fused S.left) TSh (0, 0)) * (ownAt TBay 2 (.slice (some ⟨g, 0, none⟩) S.bays.length cap) S.bays.length (baysL ps S.bays) * (ownAt TPtr 1 (.slice (some ⟨gi, 0, none⟩) S.images.length capi) S.images.length (qs.map ptrV) *
    (diskAt TD TS q' Di * (R * (diskAt TD TS qi Di * RI * F)))))))) (by kernel_rfl)
    (hcl.mono fun e w' h => by
      obtain ⟨q', rfl, h1, h2⟩ := h
      exact ⟨_, rfl, q', rfl, ((Same.refl w).drew).trans h1, (h2.perm (show _ = diskAt TD TS q (S.disk k) * (pts p (.cells (shelfC S.cfg (.slice (some ⟨g, 0, none⟩) S.bays.length cap) (.slice (some ⟨gi, 0, none⟩) S.images.length capi) S.off S.fused S.left) TSh (0, 0)) * (ownAt TBay 2 (.slice (some ⟨g, 0, none⟩) S.bays.length cap) S.bays.length (baysL ps S.bays) * (ownAt TPtr 1 (.slice (some ⟨gi, 0, none⟩) S.images.length capi) S.images.length (qs.map ptrV) *
        (diskAt TD TS q' Di * (R * (diskAt TD TS qi Di * RI * F)))))) from by ac_rfl)).right⟩) ?_
  rintro _ w2 ⟨q', rfl, h2⟩
  have hS2 := HFA.out _ _ h2.out.2
  refine ⟨hS2, ?_⟩
  simp only [List.setIfInBounds_toArray, List.set_cons_succ, List.set_cons_zero]
  (apply reg_take 13 rfl rfl (by decide +kernel) rfl); (rintro w' ⟨h1, h2, h3, h4⟩; go_simp; rfl); exact hS2; simp only [List.setIfInBounds_toArray, List.set_cons_succ, List.set_cons_zero]
  refine reg_take 14 (v := .pointer (some ⟨g, 0 + k * 2, none⟩)) rfl rfl (by decide +kernel) rfl (fun _ _ => exec_index_slice rfl rfl rfl Try.underlying72 htb htb2 (by omega)) hS2 ?_; simp only [List.setIfInBounds_toArray, List.set_cons_succ, List.set_cons_zero]
  refine reg_do_last 15 (w2.setCells g (0 + k * 2) [ptrV q', .int .i64 1]) rfl rfl (by decide +kernel) rfl (exec_store_row (new := #[ptrV q', .int .i64 1]) rfl rfl rfl (infoBay _ _) hS2.2.2.2 (by simp [ptrV, Value.oneCell'])) ?_
  go_wp2
  go_ret
  refine ⟨rfl, Same.setCells _ h2.out.1, ?_⟩
  have hs3 := h2.out.2.perm (show _ = ownAt TBay 2 (.slice (some ⟨g, 0, none⟩) S.bays.length cap) S.bays.length (baysL ps S.bays) * (pts p (.cells (shelfC S.cfg (.slice (some ⟨g, 0, none⟩) S.bays.length cap) (.slice (some ⟨gi, 0, none⟩) S.images.length capi) S.off S.fused S.left) TSh (0, 0)) * (ownAt TPtr 1 (.slice (some ⟨gi, 0, none⟩) S.images.length capi) S.images.length (qs.map ptrV) *
    (diskAt TD TS q' Di * (R * (diskAt TD TS qi Di * RI * F))))) from by ac_rfl)
  have hs4 := ownAt_set (ownAt_set hs3 (by omega) rfl (j := k * 2) (ptrV q')) (by omega) rfl (j := k * 2 + 1) (.int .i64 1)
  have hgd : S.images.getD ii ShelfM.d0 = Di := by rw [List.getD_eq_getElem?_getD, HDi.out]; rfl
  rw [Int.toNat_natCast, hgd]
  refine shelf_put (T := SH) (.slice (some ⟨g, 0, none⟩) S.bays.length cap) (.slice (some ⟨gi, 0, none⟩) S.images.length capi) (d := k) (q' := q') (b := ⟨Di, 1⟩) HL.out.1 HL.out.2 HR.out (HWF.out.setBay _ ⟨.inl rfl, fun _ => HWF.out.images Di (List.mem_of_getElem? HDi.out)⟩) rfl rfl rfl ?_
  rw [show 0 + k * 2 = k * 2 by omega, HRI.out]
  exact hs4.perm (by simp only [ShelfM.setBay]; ac_rfl)

end Go.Proofs.Ytogmkbhbmmgidaa
