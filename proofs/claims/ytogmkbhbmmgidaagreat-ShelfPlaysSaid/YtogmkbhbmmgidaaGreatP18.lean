import Derived.Test.YtogmkbhbmmgidaaGreatP17
/- Part 18 of a proof; the last part says what is proved. -/
section
namespace Go.Proofs.YtogmkbhbmmgidaaGreat
open Go.RowKit Go.Sl Go.ChangeMaps
theorem images_split {TD TS : TypeId} {qs : List Nat} {Ds : List DiskM} {k : Nat} {q : Nat} {D : DiskM} (hq : qs[k]? = some q) (hD : Ds[k]? = some D) : ∃ R, disksAt TD TS qs Ds = diskAt TD TS q D * R := by
  obtain ⟨R, hR⟩ := disksAt_split (TD := TD) (TS := TS) qs Ds k (List.getElem?_eq_some_iff.1 hq).1 (List.getElem?_eq_some_iff.1 hD).1
  exact ⟨R, by have := hR q D; rwa [set_self hq, set_self hD] at this⟩
set_option maxRecDepth 100000 in
set_option maxHeartbeats 2000000 in
theorem insert_any (p : Nat) (S : ShelfM) (F : HProp) (d im : Int) (w : World) (hS : Sat w (shelfAt SH p S * F)) :
    Calls Tryz.prog 32 #[.pointer (some ⟨p, 0, none⟩), .int .i64 d, .int .i64 im] w fun e w' => e = .returned (.int .i64 (S.insert d im).2) ∧ Hid (Same w w' ∧ Sat w' (shelfAt SH p (S.insert d im).1 * F)) := by
  have hwf := shelfAt_wf hS
  have hwant := want_any p S F d false 19 w hS
  have hi : S.insert d im = if S.state d = 0 then (S, 1) else if im < 0 ∨ (S.images.length : Int) ≤ im then (S, 12) else if S.state d = 1 then (S, 19) else (S.setBay d ⟨S.images.getD im.toNat ShelfM.d0, 1⟩, 0) := rfl
  have hw : S.want d false 19 = if S.state d = 0 then 1 else if S.state d = 1 then 19 else 0 := by
    unfold ShelfM.want
    by_cases h0 : S.state d = 0
    · rw [if_pos h0, if_pos h0]
    · rw [if_neg h0, if_neg h0]
      by_cases h1 : S.state d = 1
      · rw [if_pos h1, if_pos (by simp [h1])]
      · rw [if_neg h1, if_neg (by simp [h1])]
  have HS := Lib.hid hS
  by_cases h0 : S.state d = 0
  · rw [if_pos h0] at hi hw
    rw [hi]
    rw [hw] at hwant
    clear hi hw h0 hwf hS
    go_enter Tryz.func32, Tryz.ntmps32
    go_wp2_with (go_at_call 73; refine hwant.mono ?_; rintro e w' ⟨rfl, rfl⟩; clear hwant)
    go_ret
    exact ⟨rfl, Same.refl w, HS.out⟩
  rw [if_neg h0] at hi hw
  obtain ⟨vb, vi, ps, qs, ⟨_, hl1, hl2⟩, hs⟩ := shelfAt_iff.1 hS
  obtain ⟨⟨q6, q7, q8, q9, q10⟩, hp, hfp, hra⟩ := shelf_cells hs
  obtain ⟨ai, ci, rfl⟩ := ownAt_slice (hs.right.right)
  obtain ⟨x, hx⟩ : ∃ x, S.want d false 19 = x := ⟨_, rfl⟩
  rw [hx] at hwant hw
  have hx1 : (x == 1) = false := by rw [hw]; split <;> decide
  obtain ⟨m, hm⟩ : ∃ m, S.images.length = m := ⟨_, rfl⟩
  rw [hm] at hi q7
  by_cases hb : im < 0 ∨ (m : Int) ≤ im
  · rw [if_pos hb] at hi
    rw [hi]
    clear hi hw h0 hwf hS hs hl1 hl2 hx hm hfp hra q6 q8 q9 q10
    by_cases hb0 : im < 0
    · have hbd : decide (im < 0) = true := decide_eq_true hb0
      clear hb hb0
      go_enter Tryz.func32, Tryz.ntmps32
      go_wp2_with (go_at_call 73; refine hwant.mono ?_; rintro e w' ⟨rfl, rfl⟩; clear hwant)
      go_ret
      exact ⟨rfl, Same.refl w, HS.out⟩
    · have hbd : decide (im < 0) = false := decide_eq_false hb0
      have hbd2 : decide ((m : Int) ≤ im) = true := decide_eq_true (by omega)
      clear hb hb0
      go_enter Tryz.func32, Tryz.ntmps32
      go_wp2_with (go_at_call 73; refine hwant.mono ?_; rintro e w' ⟨rfl, rfl⟩; clear hwant)
      go_ret
      exact ⟨rfl, Same.refl w, HS.out⟩
  rw [if_neg hb] at hi
  have hbd : decide (im < 0) = false := decide_eq_false (by omega)
  have hbd2 : decide ((m : Int) ≤ im) = false := decide_eq_false (by omega)
  by_cases h1 : S.state d = 1
  · rw [if_pos h1] at hi hw
    rw [hi]
    subst hw
    clear hi h0 hwf hS hs hl1 hl2 hx hm hfp hra q6 q8 q9 q10 h1 hb
    go_enter Tryz.func32, Tryz.ntmps32
    go_wp2_with (go_at_call 73; refine hwant.mono ?_; rintro e w' ⟨rfl, rfl⟩; clear hwant)
    go_ret
    exact ⟨rfl, Same.refl w, HS.out⟩
  rw [if_neg h1] at hi hw
  rw [hi]
  subst hw
  have hin := ShelfM.state_in hwf h0
  obtain ⟨k, rfl⟩ := Int.eq_ofNat_of_zero_le hin.1
  obtain ⟨ii, rfl⟩ := Int.eq_ofNat_of_zero_le (show 0 ≤ im by omega)
  have hkl := hin.2
  have hil : ii < m := by omega
  clear hs hp hfp hra q6 q7 q8 q9 q10 hl1 hl2 hx
  obtain ⟨vb, vi, ps, qs, q, R, ⟨_, hl1, hl2⟩, hq, hs, hR⟩ := shelf_open hS (d := k) (by omega)
  have hs2 := hs.right
  obtain ⟨g, cap, cur, rfl, hg, hc, hf, hgs, _⟩ := ownAt_block hs2 (by omega)
  have hs3 := hs2.right
  obtain ⟨gi, capi, curi, rfl, hgi, hci, hfi, _, _⟩ := ownAt_block hs3 (by omega)
  have hbay := ShelfM.bay_of (S := S) hin.1 hin.2
  have hcell := baysL_at ps S.bays k q _ hq (by simpa using hbay)
  obtain ⟨qi, hqi⟩ : ∃ qi, qs[ii]? = some qi := ⟨_, List.getElem?_eq_getElem (by omega)⟩
  obtain ⟨Di, hDi⟩ : ∃ Di, S.images[ii]? = some Di := ⟨_, List.getElem?_eq_getElem (by omega)⟩
  obtain ⟨RI, hRI⟩ := images_split (TD := TD) (TS := TS) hqi hDi
  have hfacts : ∀ (w' : World) (X : HProp), Sat w' (pts p (.cells (shelfC S.cfg (.slice (some ⟨g, 0, none⟩) S.bays.length cap) (.slice (some ⟨gi, 0, none⟩) S.images.length capi) S.off S.fused S.left) TSh (0, 0)) * (ownAt TBay 2 (.slice (some ⟨g, 0, none⟩) S.bays.length cap) S.bays.length (baysL ps S.bays) * (ownAt TPtr 1 (.slice (some ⟨gi, 0, none⟩) S.images.length capi) S.images.length (qs.map ptrV) * X))) →
      w'.cell? ⟨p, 6, none⟩ = some (.slice (some ⟨g, 0, none⟩) S.bays.length cap) ∧ w'.cell? ⟨p, 7, none⟩ = some (.slice (some ⟨gi, 0, none⟩) m capi) ∧ w'.cell? ⟨gi, 0 + ii * 1, none⟩ = some (.pointer (some ⟨qi, 0, none⟩)) ∧ w'.there g (0 + k * 2) 2 := by
    intro w' X h
    have r := shelf_cells h
    refine ⟨r.1.1, by rw [← hm]; exact r.1.2.1, ?_, ?_⟩
    · obtain ⟨g', cap', cur', hv, _, hc', hf', _⟩ := ownAt_block h.right.right (by omega)
      simp only [Value.slice.injEq, Option.some.injEq, Addr.mk.injEq, and_true, true_and] at hv
      obtain ⟨rfl, rfl⟩ := hv
      rw [Nat.zero_add, Nat.mul_one]
      exact hc' ii _ (by rw [List.getElem?_map, hqi]; rfl)
    · intro j hj
      obtain ⟨g', cap', cur', hv, _, hc', hf', _⟩ := ownAt_block h.right (by omega)
      simp only [Value.slice.injEq, Option.some.injEq, Addr.mk.injEq, and_true, true_and] at hv
      obtain ⟨rfl, rfl⟩ := hv
      refine ⟨?_, hf' _⟩
      rcases (show j = 0 ∨ j = 1 by omega) with rfl | rfl
      · rw [show 0 + k * 2 + 0 = k * 2 by omega, hc' _ _ hcell.1]; rfl
      · rw [show 0 + k * 2 + 1 = k * 2 + 1 by omega, hc' _ _ hcell.2]; rfl
  rw [show TD = SH.disk from rfl, show TS = SH.sec from rfl] at hRI
  rw [hRI] at hs
  have f0 := hfacts _ _ hs
  have HFA := Lib.hid hfacts
  have HR := Lib.hid hR
  have HRI := Lib.hid hRI
  have HWF := Lib.hid hwf
  have HL := Lib.hid (And.intro hl1 hl2)
  have HDi := Lib.hid hDi
  have hcl := clone_any qi Di (pts p (.cells (shelfC S.cfg (.slice (some ⟨g, 0, none⟩) S.bays.length cap) (.slice (some ⟨gi, 0, none⟩) S.images.length capi) S.off S.fused S.left) TSh (0, 0)) * (ownAt TBay 2 (.slice (some ⟨g, 0, none⟩) S.bays.length cap) S.bays.length (baysL ps S.bays) * (ownAt TPtr 1 (.slice (some ⟨gi, 0, none⟩) S.images.length capi) S.images.length (qs.map ptrV) * (diskAt TD TS q (S.disk k) * (R * (RI * F)))))) w.drew (hs.drew.perm (by ac_rfl))
  obtain ⟨tib, htib⟩ : ∃ ti, Tryz.prog.info? TBay = some ti ∧ ti.size = 2 := by have := infoBay (ptrV 0) (ptrV 0); obtain ⟨ti, h1, h2⟩ := Option.map_eq_some_iff.1 this; exact ⟨ti, h1, h2⟩
  obtain ⟨tip, htip⟩ : ∃ ti, Tryz.prog.info? TPtr = some ti ∧ ti.size = 1 := Option.map_eq_some_iff.1 (show (Tryz.prog.info? TPtr).map (·.size) = some 1 by kernel_rfl)
  have htb := htib.1
  have htb2 := htib.2
  have htp := htip.1
  have htp2 := htip.2
  have q7 := f0.2.1
  have HM := Lib.hid hm
  clear hs hs2 hs3 hS hwf hi h1 h0 hin hl1 hl2 hq hc hf hgs hci hfi hbay hcell hR hfacts htib htip hqi hDi hRI hg hgi hb hm HS
  go_enter Tryz.func32, Tryz.ntmps32
  go_upto_region 7 with (go_at_call 73; refine hwant.mono ?_; rintro e w' ⟨rfl, rfl⟩; clear hwant)
  have hS0 : w.drew.cell? ⟨p, 6, none⟩ = some (.slice (some ⟨g, 0, none⟩) S.bays.length cap) ∧ w.drew.cell? ⟨p, 7, none⟩ = some (.slice (some ⟨gi, 0, none⟩) m capi) ∧ w.drew.cell? ⟨gi, 0 + ii * 1, none⟩ = some (.pointer (some ⟨qi, 0, none⟩)) ∧ w.drew.there g (0 + k * 2) 2 := f0
  refine reg_begin (fun w' => w'.cell? ⟨p, 6, none⟩ = some (.slice (some ⟨g, 0, none⟩) S.bays.length cap) ∧ w'.cell? ⟨p, 7, none⟩ = some (.slice (some ⟨gi, 0, none⟩) m capi) ∧ w'.cell? ⟨gi, 0 + ii * 1, none⟩ = some (.pointer (some ⟨qi, 0, none⟩)) ∧ w'.there g (0 + k * 2) 2) (by kernel_rfl) ?_
  (apply reg_take 0 rfl rfl (by decide +kernel) rfl); (rintro w' ⟨h1, h2, h3, h4⟩; go_simp; rfl); exact hS0; simp only [List.setIfInBounds_toArray, List.set_cons_succ, List.set_cons_zero]
  (apply reg_take 1 rfl rfl (by decide +kernel) rfl); (rintro w' ⟨h1, h2, h3, h4⟩; go_simp; rfl); exact hS0; simp only [List.setIfInBounds_toArray, List.set_cons_succ, List.set_cons_zero]
  (apply reg_take 2 rfl rfl (by decide +kernel) rfl); (rintro w' ⟨h1, h2, h3, h4⟩; go_simp; rfl); exact hS0; simp only [List.setIfInBounds_toArray, List.set_cons_succ, List.set_cons_zero]
  (apply reg_take 3 rfl rfl (by decide +kernel) rfl); (rintro w' ⟨h1, h2, h3, h4⟩; go_simp; rfl); exact hS0; simp only [List.setIfInBounds_toArray, List.set_cons_succ, List.set_cons_zero]
  (apply reg_take 4 rfl rfl (by decide +kernel) rfl); (rintro w' ⟨h1, h2, h3, h4⟩; go_simp; rfl); exact hS0; simp only [List.setIfInBounds_toArray, List.set_cons_succ, List.set_cons_zero]
  (apply reg_take 5 rfl rfl (by decide +kernel) rfl); (rintro w' ⟨h1, h2, h3, h4⟩; go_simp; rfl); exact hS0; simp only [List.setIfInBounds_toArray, List.set_cons_succ, List.set_cons_zero]
  (apply reg_take 6 rfl rfl (by decide +kernel) rfl); (rintro w' ⟨h1, h2, h3, h4⟩; go_simp; rfl); exact hS0; simp only [List.setIfInBounds_toArray, List.set_cons_succ, List.set_cons_zero]
  (apply reg_take 7 rfl rfl (by decide +kernel) rfl); (rintro w' ⟨h1, h2, h3, h4⟩; go_simp; rfl); exact hS0; simp only [List.setIfInBounds_toArray, List.set_cons_succ, List.set_cons_zero]
  (apply reg_take 8 rfl rfl (by decide +kernel) rfl); (rintro w' ⟨h1, h2, h3, h4⟩; go_simp; rfl); exact hS0; simp only [List.setIfInBounds_toArray, List.set_cons_succ, List.set_cons_zero]
  (apply reg_take 9 rfl rfl (by decide +kernel) rfl); (rintro w' ⟨h1, h2, h3, h4⟩; go_simp; rfl); exact hS0; simp only [List.setIfInBounds_toArray, List.set_cons_succ, List.set_cons_zero]
  refine reg_take 10 (v := .pointer (some ⟨gi, 0 + ii * 1, none⟩)) rfl rfl (by decide +kernel) rfl (fun _ _ => exec_index_slice rfl rfl rfl Tryz.underlying57 htp htp2 hil) hS0 ?_; simp only [List.setIfInBounds_toArray, List.set_cons_succ, List.set_cons_zero]
  refine reg_take 11 (v := .pointer (some ⟨qi, 0, none⟩)) rfl rfl (by decide +kernel) rfl (fun _ h => exec_load_cell rfl rfl Tryz.underlying60 rfl h.2.2.1) hS0 ?_; simp only [List.setIfInBounds_toArray, List.set_cons_succ, List.set_cons_zero]
  refine reg_call 12 rfl rfl (by decide +kernel) rfl (f := 24) (args := #[.pointer (some ⟨qi, 0, none⟩)]) (R := fun v w' => ∃ q', v = .pointer (some ⟨q', 0, none⟩) ∧ Hid (Same w w' ∧ Sat w' (pts p (.cells (shelfC S.cfg (.slice (some ⟨g, 0, none⟩) S.bays.length cap) (.slice (some ⟨gi, 0, none⟩) S.images.length capi) S.off S.fused S.left) TSh (0, 0)) * (ownAt TBay 2 (.slice (some ⟨g, 0, none⟩) S.bays.length cap) S.bays.length (baysL ps S.bays) * (ownAt TPtr 1 (.slice (some ⟨gi, 0, none⟩) S.images.length capi) S.images.length (qs.map ptrV) *
    (diskAt TD TS q' Di * (R * (diskAt TD TS qi Di * RI * F)))))))) (by kernel_rfl)
    (hcl.mono fun e w' h => by
      obtain ⟨q', rfl, h1, h2⟩ := h
      exact ⟨_, rfl, q', rfl, ((Same.refl w).drew).trans h1, (h2.perm (show _ = diskAt TD TS q (S.disk k) * (pts p (.cells (shelfC S.cfg (.slice (some ⟨g, 0, none⟩) S.bays.length cap) (.slice (some ⟨gi, 0, none⟩) S.images.length capi) S.off S.fused S.left) TSh (0, 0)) * (ownAt TBay 2 (.slice (some ⟨g, 0, none⟩) S.bays.length cap) S.bays.length (baysL ps S.bays) * (ownAt TPtr 1 (.slice (some ⟨gi, 0, none⟩) S.images.length capi) S.images.length (qs.map ptrV) *
        (diskAt TD TS q' Di * (R * (diskAt TD TS qi Di * RI * F)))))) from by ac_rfl)).right⟩) ?_
  rintro _ w2 ⟨q', rfl, h2⟩
  have hS2 := HFA.out _ _ h2.out.2
  refine ⟨hS2, ?_⟩
  simp only [List.setIfInBounds_toArray, List.set_cons_succ, List.set_cons_zero]
  (apply reg_take 13 rfl rfl (by decide +kernel) rfl); (rintro w' ⟨h1, h2, h3, h4⟩; go_simp; rfl); exact hS2; simp only [List.setIfInBounds_toArray, List.set_cons_succ, List.set_cons_zero]
  refine reg_take 14 (v := .pointer (some ⟨g, 0 + k * 2, none⟩)) rfl rfl (by decide +kernel) rfl (fun _ _ => exec_index_slice rfl rfl rfl Tryz.underlying56 htb htb2 (by omega)) hS2 ?_; simp only [List.setIfInBounds_toArray, List.set_cons_succ, List.set_cons_zero]
  refine reg_do_last 15 (w2.setCells g (0 + k * 2) [ptrV q', .int .i64 1]) rfl rfl (by decide +kernel) rfl (exec_store_row (new := #[ptrV q', .int .i64 1]) rfl rfl rfl (infoBay _ _) hS2.2.2.2 (by simp [ptrV, Value.oneCell'])) ?_
  go_wp2
  go_ret
  refine ⟨rfl, Same.setCells _ h2.out.1, ?_⟩
  have hs3 := h2.out.2.perm (show _ = ownAt TBay 2 (.slice (some ⟨g, 0, none⟩) S.bays.length cap) S.bays.length (baysL ps S.bays) * (pts p (.cells (shelfC S.cfg (.slice (some ⟨g, 0, none⟩) S.bays.length cap) (.slice (some ⟨gi, 0, none⟩) S.images.length capi) S.off S.fused S.left) TSh (0, 0)) * (ownAt TPtr 1 (.slice (some ⟨gi, 0, none⟩) S.images.length capi) S.images.length (qs.map ptrV) *
    (diskAt TD TS q' Di * (R * (diskAt TD TS qi Di * RI * F))))) from by ac_rfl)
  have hs4 := ownAt_set (ownAt_set hs3 (by omega) rfl (j := k * 2) (ptrV q')) (by omega) rfl (j := k * 2 + 1) (.int .i64 1)
  have hgd : S.images.getD ii ShelfM.d0 = Di := by rw [List.getD_eq_getElem?_getD, HDi.out]; rfl
  rw [Int.toNat_natCast, hgd]
  refine shelf_put (T := SH) (.slice (some ⟨g, 0, none⟩) S.bays.length cap) (.slice (some ⟨gi, 0, none⟩) S.images.length capi) (d := k) (q' := q') (b := ⟨Di, 1⟩) HL.out.1 HL.out.2 HR.out (HWF.out.setBay _ ⟨.inl rfl, fun _ => HWF.out.images Di (List.mem_of_getElem? HDi.out)⟩) rfl rfl rfl ?_
  rw [show 0 + k * 2 = k * 2 by omega, HRI.out]
  exact hs4.perm (by simp only [ShelfM.setBay]; ac_rfl)
end Go.Proofs.YtogmkbhbmmgidaaGreat
end
section
namespace Go.Proofs.YtogmkbhbmmgidaaGreat
open Go.RowKit Go.Sl Go.ChangeMaps
theorem info_Ptr3 : (Tryz.prog.info? TPtr).map (fun i => (i.zero, i.size, i.bytes)) = some (some (.pointer none), 1, 8) := by kernel_rfl
def RemOut (p : Nat) (S : ShelfM) (F : HProp) (d : Int) (w : World) (e : Ending) (w' : World) : Prop := e = .returned (.tuple #[.int .i64 (S.remove d).2.1, .int .i64 (S.remove d).2.2]) ∧ Same w w' ∧ Sat w' (shelfAt SH p (S.remove d).1 * F)
set_option maxRecDepth 100000 in
set_option maxHeartbeats 2000000 in
theorem remove_any (p : Nat) (S : ShelfM) (F : HProp) (d : Int) (w : World) (hS : Sat w (shelfAt SH p S * F)) (hil : S.images.length ≤ 1000000) :
    Calls Tryz.prog 31 #[.pointer (some ⟨p, 0, none⟩), .int .i64 d] w (RemOut p S F d w) := by
  have hwf := shelfAt_wf hS
  have hwant := want_any p S F d true 15 w hS
  have hk : S.remove d = if S.want d true 15 = 0 then ({ S.setBay d ⟨ShelfM.d0, 2⟩ with images := S.images ++ [(S.disk d).cut []] }, (S.images.length : Int), 0) else (S, 0, S.want d true 15) := rfl
  have HS := Lib.hid hS
  obtain ⟨x, hx⟩ : ∃ x, S.want d true 15 = x := ⟨_, rfl⟩
  rw [hx] at hk hwant
  by_cases h0 : x = 0
  case neg =>
    rw [if_neg h0] at hk
    have HK := Lib.hid hk
    have hxb : (x != 0) = true := by simp [h0]
    clear hk h0 hS hwf hx
    go_enter Tryz.func31, Tryz.ntmps31
    go_wp2_with (go_at_call 73; refine hwant.mono ?_; rintro e w' ⟨rfl, rfl⟩; clear hwant)
    go_ret2
    unfold RemOut
    rw [HK.out]
    exact ⟨rfl, Same.refl w, HS.out⟩
  subst h0
  rw [if_pos rfl] at hk
  have HK := Lib.hid hk
  have h1 := (want_zero (by decide)).1 hx
  have hin := ShelfM.state_in hwf h1.1
  have hst1 : S.state d = 1 := by simpa using h1.2
  obtain ⟨k, rfl⟩ := Int.eq_ofNat_of_zero_le hin.1
  have hkl := hin.2
  obtain ⟨vb, vi, ps, qs, q, R, ⟨_, hl1, hl2⟩, hq, hs, hR⟩ := shelf_open hS (d := k) (by omega)
  have hs2 := hs.right
  obtain ⟨g, cap, cur, rfl, hg, hc, hf, hgs, _⟩ := ownAt_block hs2 (by omega)
  have hbay := ShelfM.bay_of (S := S) hin.1 hin.2
  have hcell := baysL_at ps S.bays k q _ hq (by simpa using hbay)
  -- what lies in the row of the bays
  have hfacts : ∀ (w' : World) (vi : Value) (X : HProp), Sat w' (pts p (.cells (shelfC S.cfg (.slice (some ⟨g, 0, none⟩) S.bays.length cap) vi S.off S.fused S.left) TSh (0, 0)) * (ownAt TBay 2 (.slice (some ⟨g, 0, none⟩) S.bays.length cap) S.bays.length (baysL ps S.bays) * X)) →
      w'.cell? ⟨p, 6, none⟩ = some (.slice (some ⟨g, 0, none⟩) S.bays.length cap) ∧ w'.cell? ⟨p, 7, none⟩ = some vi ∧ w'.cell? ⟨g, k * 2, none⟩ = some (.pointer (some ⟨q, 0, none⟩)) ∧ w'.there g (0 + k * 2) 2 := by
    intro w' vi X h
    have r := shelf_cells h
    obtain ⟨g', cap', cur', hv, _, hc', hf', _⟩ := ownAt_block h.right (by omega)
    simp only [Value.slice.injEq, Option.some.injEq, Addr.mk.injEq, and_true, true_and] at hv
    obtain ⟨rfl, rfl⟩ := hv
    refine ⟨r.1.1, r.1.2.1, hc' _ _ hcell.1, ?_⟩
    intro j hj
    refine ⟨?_, hf' _⟩
    rcases (show j = 0 ∨ j = 1 by omega) with rfl | rfl
    · rw [show 0 + k * 2 + 0 = k * 2 by omega, hc' _ _ hcell.1]; rfl
    · rw [show 0 + k * 2 + 1 = k * 2 + 1 by omega, hc' _ _ hcell.2]; rfl
  have f0 := hfacts _ _ _ hs
  obtain ⟨q6, q7, b0, _⟩ := f0
  have HFA := Lib.hid hfacts
  have HR := Lib.hid hR
  have HWF := Lib.hid hwf
  have HL := Lib.hid (And.intro hl1 (And.intro hl2 hq))
  have HCE := Lib.hid hcell
  have hcut := cut_any q (S.disk k) _ (.slice none 0 0) [] w (hs.perm (show _ = diskAt TD TS q (S.disk k) * (pts p (.cells (shelfC S.cfg (.slice (some ⟨g, 0, none⟩) S.bays.length cap) vi S.off S.fused S.left) TSh (0, 0)) * (ownAt TBay 2 (.slice (some ⟨g, 0, none⟩) S.bays.length cap) S.bays.length (baysL ps S.bays) * (ownAt TPtr 1 vi S.images.length (qs.map ptrV) *
        (R * (disksAt TD TS qs S.images * F))))) from by ac_rfl)) (fun w' _ => IntsAt.nil w')
  obtain ⟨tib, htib⟩ : ∃ ti, Tryz.prog.info? TBay = some ti ∧ ti.size = 2 := by have := infoBay (ptrV 0) (ptrV 0); obtain ⟨ti, h1, h2⟩ := Option.map_eq_some_iff.1 this; exact ⟨ti, h1, h2⟩
  have htb := htib.1
  have htb2 := htib.2
  obtain ⟨n, hn⟩ : ∃ n, S.bays.length = n := ⟨_, rfl⟩
  obtain ⟨m, hm⟩ : ∃ m, S.images.length = m := ⟨_, rfl⟩
  have HNM := Lib.hid (And.intro hn hm)
  have HST := Lib.hid hst1
  clear hs hs2 hS hwf h1 hin hl1 hl2 hq hc hf hgs hbay hcell hR hfacts htib hg hx hn hm HS hst1 hk
  go_enter Tryz.func31, Tryz.ntmps31
  go_upto_region 5 with (first
    | (go_at_call 73; refine hwant.mono ?_; rintro e w' ⟨rfl, rfl⟩; clear hwant)
    | (go_at_call 72; refine hcut.mono ?_; rintro e w1 ⟨rfl, hsm, hs1⟩; have H1 := Lib.hid (And.intro hsm hs1); clear hsm hs1 hcut))
  clear q6 q7 b0
  generalize hD : (S.disk k).cut [] = D at H1
  have HD := Lib.hid hD
  clear hD
  have hs1 := H1.out.2.perm (show _ = pts p (.cells (shelfC S.cfg (.slice (some ⟨g, 0, none⟩) S.bays.length cap) vi S.off S.fused S.left) TSh (0, 0)) * (ownAt TBay 2 (.slice (some ⟨g, 0, none⟩) S.bays.length cap) S.bays.length (baysL ps S.bays) * (ownAt TPtr 1 vi S.images.length (qs.map ptrV) *
        (diskAt TD TS q D * (R * (disksAt TD TS qs S.images * F))))) from by ac_rfl)
  obtain ⟨q6, q7, b0, t0⟩ := HFA.out _ _ _ hs1
  have hS0 : w1.drew.cell? ⟨p, 6, none⟩ = some (.slice (some ⟨g, 0, none⟩) S.bays.length cap) ∧ w1.drew.cell? ⟨p, 7, none⟩ = some vi ∧ w1.drew.cell? ⟨g, 0 + k * 2, none⟩ = some (.pointer (some ⟨q, 0, none⟩)) := ⟨q6, q7, by rw [Nat.zero_add]; exact b0⟩
  refine reg_begin (fun w' => w'.cell? ⟨p, 6, none⟩ = some (.slice (some ⟨g, 0, none⟩) S.bays.length cap) ∧ w'.cell? ⟨p, 7, none⟩ = some vi ∧ w'.cell? ⟨g, 0 + k * 2, none⟩ = some (.pointer (some ⟨q, 0, none⟩))) (by kernel_rfl) ?_
  (apply reg_take 0 rfl rfl (by decide +kernel) rfl); (rintro w' ⟨h1, h2, h3⟩; go_simp; rfl); exact hS0; simp only [List.setIfInBounds_toArray, List.set_cons_succ, List.set_cons_zero]
  (apply reg_take 1 rfl rfl (by decide +kernel) rfl); (rintro w' ⟨h1, h2, h3⟩; go_simp; rfl); exact hS0; simp only [List.setIfInBounds_toArray, List.set_cons_succ, List.set_cons_zero]
  (apply reg_take 2 rfl rfl (by decide +kernel) rfl); (rintro w' ⟨h1, h2, h3⟩; go_simp; rfl); exact hS0; simp only [List.setIfInBounds_toArray, List.set_cons_succ, List.set_cons_zero]
  (apply reg_take 3 rfl rfl (by decide +kernel) rfl); (rintro w' ⟨h1, h2, h3⟩; go_simp; rfl); exact hS0; simp only [List.setIfInBounds_toArray, List.set_cons_succ, List.set_cons_zero]
  (apply reg_take 4 rfl rfl (by decide +kernel) rfl); (rintro w' ⟨h1, h2, h3⟩; go_simp; rfl); exact hS0; simp only [List.setIfInBounds_toArray, List.set_cons_succ, List.set_cons_zero]
  (apply reg_take 5 rfl rfl (by decide +kernel) rfl); (rintro w' ⟨h1, h2, h3⟩; go_simp; rfl); exact hS0; simp only [List.setIfInBounds_toArray, List.set_cons_succ, List.set_cons_zero]
  (apply reg_take 6 rfl rfl (by decide +kernel) rfl); (rintro w' ⟨h1, h2, h3⟩; go_simp; rfl); exact hS0; simp only [List.setIfInBounds_toArray, List.set_cons_succ, List.set_cons_zero]
  (apply reg_take 7 rfl rfl (by decide +kernel) rfl); (rintro w' ⟨h1, h2, h3⟩; go_simp; rfl); exact hS0; simp only [List.setIfInBounds_toArray, List.set_cons_succ, List.set_cons_zero]
  (apply reg_take 8 rfl rfl (by decide +kernel) rfl); (rintro w' ⟨h1, h2, h3⟩; go_simp; rfl); exact hS0; simp only [List.setIfInBounds_toArray, List.set_cons_succ, List.set_cons_zero]
  (apply reg_take 9 rfl rfl (by decide +kernel) rfl); (rintro w' ⟨h1, h2, h3⟩; go_simp; rfl); exact hS0; simp only [List.setIfInBounds_toArray, List.set_cons_succ, List.set_cons_zero]
  refine reg_take 10 (v := .pointer (some ⟨g, 0 + k * 2, none⟩)) rfl rfl (by decide +kernel) rfl (fun _ _ => exec_index_slice rfl rfl rfl Tryz.underlying56 htb htb2 (by omega)) hS0 ?_; simp only [List.setIfInBounds_toArray, List.set_cons_succ, List.set_cons_zero]
  (apply reg_take 11 rfl rfl (by decide +kernel) rfl); (rintro w' ⟨h1, h2, h3⟩; rw [Nat.zero_add] at h3; go_simp; rfl); exact hS0; simp only [List.setIfInBounds_toArray, List.set_cons_succ, List.set_cons_zero]
  (apply reg_take 12 rfl rfl (by decide +kernel) rfl); (rintro w' ⟨h1, h2, h3⟩; rw [Nat.zero_add] at h3; go_simp; rfl); exact hS0; simp only [List.setIfInBounds_toArray, List.set_cons_succ, List.set_cons_zero]
  have hA4 := hs1.drew.alloc (.cells #[.pointer (some ⟨q, 0, none⟩)] TPtr)
  have hS4 : (w1.drew.alloc (.cells #[.pointer (some ⟨q, 0, none⟩)] TPtr)).cell? ⟨p, 6, none⟩ = some (.slice (some ⟨g, 0, none⟩) S.bays.length cap) ∧ (w1.drew.alloc (.cells #[.pointer (some ⟨q, 0, none⟩)] TPtr)).cell? ⟨p, 7, none⟩ = some vi ∧ (w1.drew.alloc (.cells #[.pointer (some ⟨q, 0, none⟩)] TPtr)).cell? ⟨g, 0 + k * 2, none⟩ = some (.pointer (some ⟨q, 0, none⟩)) := by
    obtain ⟨a, b, c, _⟩ := HFA.out _ _ _ hA4.right
    exact ⟨a, b, by rw [Nat.zero_add]; exact c⟩
  refine reg_run 13 (.slice (some ⟨w1.drew.heap.size, 0, none⟩) 1 1) (w1.drew.alloc (.cells #[.pointer (some ⟨q, 0, none⟩)] TPtr)) rfl rfl (by decide +kernel) rfl (by go_simp) (hS4) ?_; simp only [List.setIfInBounds_toArray, List.set_cons_succ, List.set_cons_zero]
  have hA5 := hA4.perm (show _ = ownAt TPtr 1 vi S.images.length (qs.map ptrV) * (pts w1.drew.heap.size (.cells #[.pointer (some ⟨q, 0, none⟩)] TPtr (0, 0)) * (pts p (.cells (shelfC S.cfg (.slice (some ⟨g, 0, none⟩) S.bays.length cap) vi S.off S.fused S.left) TSh (0, 0)) * (ownAt TBay 2 (.slice (some ⟨g, 0, none⟩) S.bays.length cap) S.bays.length (baysL ps S.bays) *
        (diskAt TD TS q D * (R * (disksAt TD TS qs S.images * F)))))) from by ac_rfl)
  obtain ⟨ti, hti, hz0, hts, hz2⟩ := info_parts info_Ptr3
  obtain ⟨v', w5, hr, hsm5, hs5⟩ := run_append_ownAt (P := Tryz.prog) 57 57 TPtr ti _ Tryz.underlying57 hti hz0 (by rw [hts]; rfl) vi S.images.length (qs.map ptrV) (by rw [hts]; exact hA5) ⟨w1.drew.heap.size, 0, none⟩ 1 1 [.pointer (some ⟨q, 0, none⟩)] (by rw [hts]; rfl)
    (by intro j u hu; rw [Addr.add_mid, cells_at hA5.right.block, Nat.zero_add]; simpa using hu) (by simp [Value.oneCell']) (by unfold maxLen; omega) (by rw [hz2]; omega)
  rw [hts] at hs5
  have hs6 := hs5.perm (show _ = pts w1.drew.heap.size (.cells #[.pointer (some ⟨q, 0, none⟩)] TPtr (0, 0)) * (pts p (.cells (shelfC S.cfg (.slice (some ⟨g, 0, none⟩) S.bays.length cap) vi S.off S.fused S.left) TSh (0, 0)) * (ownAt TBay 2 (.slice (some ⟨g, 0, none⟩) S.bays.length cap) S.bays.length (baysL ps S.bays) * (ownAt TPtr 1 v' (S.images.length + 1) (qs.map ptrV ++ [.pointer (some ⟨q, 0, none⟩)]) *
        (diskAt TD TS q D * (R * (disksAt TD TS qs S.images * F)))))) from by ac_rfl)
  have hS6 : w5.cell? ⟨p, 6, none⟩ = some (.slice (some ⟨g, 0, none⟩) S.bays.length cap) ∧ w5.cell? ⟨p, 7, none⟩ = some vi ∧ w5.cell? ⟨g, 0 + k * 2, none⟩ = some (.pointer (some ⟨q, 0, none⟩)) := by
    obtain ⟨a, b, c, _⟩ := HFA.out _ _ _ hs6.right
    exact ⟨a, b, by rw [Nat.zero_add]; exact c⟩
  refine reg_run 14 (v') (w5) rfl rfl (by decide +kernel) rfl (exec_append rfl rfl rfl hr) (hS6) ?_; simp only [List.setIfInBounds_toArray, List.set_cons_succ, List.set_cons_zero]
  (apply reg_take 15 rfl rfl (by decide +kernel) rfl); (rintro w' ⟨h1, h2, h3⟩; go_simp; rfl); exact hS6; simp only [List.setIfInBounds_toArray, List.set_cons_succ, List.set_cons_zero]
  (apply reg_take 16 rfl rfl (by decide +kernel) rfl); (rintro w' ⟨h1, h2, h3⟩; go_simp; rfl); exact hS6; simp only [List.setIfInBounds_toArray, List.set_cons_succ, List.set_cons_zero]
  obtain ⟨ip, hip, hip2⟩ := Option.map_eq_some_iff.1 (show (Tryz.prog.info? 57).map (·.size) = some 1 by kernel_rfl)
  obtain ⟨ao', cp', rfl⟩ := ownAt_slice hs5
  refine reg_do_last 17 (w5.setCell ⟨p, 7, none⟩ (.slice ao' (S.images.length + 1) cp')) rfl rfl (by decide +kernel) rfl (exec_store_cell rfl rfl rfl hip hip2 rfl hS6.2.1 (thawed_at hs6.right.block 7)) ?_
  have h7 := (hs6.right.setCell (i := 7) (.slice ao' (S.images.length + 1) cp')).perm (show _ = pts p (.cells (shelfC S.cfg (.slice (some ⟨g, 0, none⟩) S.bays.length cap) (.slice ao' (S.images.length + 1) cp') S.off S.fused S.left) TSh (0, 0)) * (ownAt TBay 2 (.slice (some ⟨g, 0, none⟩) S.bays.length cap) S.bays.length (baysL ps S.bays) * (ownAt TPtr 1 (.slice ao' (S.images.length + 1) cp') (S.images.length + 1) (qs.map ptrV ++ [.pointer (some ⟨q, 0, none⟩)]) *
        (diskAt TD TS q D * (R * (disksAt TD TS qs S.images * F))))) from by unfold shelfC; simp only [List.setIfInBounds_toArray, List.set_cons_succ, List.set_cons_zero])
  have H7 := Lib.hid (And.intro (((H1.out.1.drew.alloc (.cells #[.pointer (some ⟨q, 0, none⟩)] TPtr)).trans hsm5).setCell ⟨p, 7, none⟩ (.slice ao' (S.images.length + 1) cp')) h7)
  clear hs1 q6 q7 b0 t0 hS0 hA4 hS4 hA5 hr hsm5 hs5 hs6 hS6 H1 h7
  generalize w5.setCell ⟨p, 7, none⟩ (.slice ao' (S.images.length + 1) cp') = w7 at H7 ⊢
  go_upto_region 6 with (fail)
  obtain ⟨q6, q7, b0, t0⟩ := HFA.out _ _ _ H7.out.2
  have hS0 : w7.drew.cell? ⟨p, 6, none⟩ = some (.slice (some ⟨g, 0, none⟩) S.bays.length cap) ∧ w7.drew.there g (0 + k * 2) 2 := ⟨q6, t0⟩
  refine reg_begin (fun w' => w'.cell? ⟨p, 6, none⟩ = some (.slice (some ⟨g, 0, none⟩) S.bays.length cap) ∧ w'.there g (0 + k * 2) 2) (by kernel_rfl) ?_
  (apply reg_take 0 rfl rfl (by decide +kernel) rfl); (rintro w' ⟨h1, h2⟩; go_simp; rfl); exact hS0; simp only [List.setIfInBounds_toArray, List.set_cons_succ, List.set_cons_zero]
  (apply reg_take 1 rfl rfl (by decide +kernel) rfl); (rintro w' ⟨h1, h2⟩; go_simp; rfl); exact hS0; simp only [List.setIfInBounds_toArray, List.set_cons_succ, List.set_cons_zero]
  (apply reg_take 2 rfl rfl (by decide +kernel) rfl); (rintro w' ⟨h1, h2⟩; go_simp; rfl); exact hS0; simp only [List.setIfInBounds_toArray, List.set_cons_succ, List.set_cons_zero]
  (apply reg_take 3 rfl rfl (by decide +kernel) rfl); (rintro w' ⟨h1, h2⟩; go_simp; rfl); exact hS0; simp only [List.setIfInBounds_toArray, List.set_cons_succ, List.set_cons_zero]
  (apply reg_take 4 rfl rfl (by decide +kernel) rfl); (rintro w' ⟨h1, h2⟩; go_simp; rfl); exact hS0; simp only [List.setIfInBounds_toArray, List.set_cons_succ, List.set_cons_zero]
  refine reg_call 5 rfl rfl (by decide +kernel) rfl (f := 21) (args := #[.int .i64 0]) (R := fun v w' => ∃ q', v = .pointer (some ⟨q', 0, none⟩) ∧ Hid (Same w w' ∧ Sat w' (pts p (.cells (shelfC S.cfg (.slice (some ⟨g, 0, none⟩) S.bays.length cap) (.slice ao' (S.images.length + 1) cp') S.off S.fused S.left) TSh (0, 0)) * (ownAt TBay 2 (.slice (some ⟨g, 0, none⟩) S.bays.length cap) S.bays.length (baysL ps S.bays) * (ownAt TPtr 1 (.slice ao' (S.images.length + 1) cp') (S.images.length + 1) (qs.map ptrV ++ [.pointer (some ⟨q, 0, none⟩)]) *
        (diskAt TD TS q' ShelfM.d0 * (diskAt TD TS q D * (R * (disksAt TD TS qs S.images * F))))))))) (by kernel_rfl)
    ((new_any 0 _ w7.drew H7.out.2.drew).mono fun e w' h => by
      obtain ⟨q', rfl, h1, h2⟩ := h
      exact ⟨_, rfl, q', rfl, H7.out.1.drew.trans h1, h2.perm (by show diskAt TD TS q' ShelfM.d0 * _ = _; ac_rfl)⟩) ?_
  rintro _ w8 ⟨q', rfl, h8⟩
  obtain ⟨r6, r7, rb, rt⟩ := HFA.out _ _ _ h8.out.2
  have hS8 : w8.cell? ⟨p, 6, none⟩ = some (.slice (some ⟨g, 0, none⟩) S.bays.length cap) ∧ w8.there g (0 + k * 2) 2 := ⟨r6, rt⟩
  refine ⟨hS8, ?_⟩
  simp only [List.setIfInBounds_toArray, List.set_cons_succ, List.set_cons_zero]
  (apply reg_take 6 rfl rfl (by decide +kernel) rfl); (rintro w' ⟨h1, h2⟩; go_simp; rfl); exact hS8; simp only [List.setIfInBounds_toArray, List.set_cons_succ, List.set_cons_zero]
  refine reg_take 7 (v := .pointer (some ⟨g, 0 + k * 2, none⟩)) rfl rfl (by decide +kernel) rfl (fun _ _ => exec_index_slice rfl rfl rfl Tryz.underlying56 htb htb2 (by omega)) hS8 ?_; simp only [List.setIfInBounds_toArray, List.set_cons_succ, List.set_cons_zero]
  refine reg_do_last 8 (w8.setCells g (0 + k * 2) [ptrV q', .int .i64 2]) rfl rfl (by decide +kernel) rfl (exec_store_row (new := #[ptrV q', .int .i64 2]) rfl rfl rfl (infoBay _ _) rt (by simp [ptrV, Value.oneCell'])) ?_
  have hs3 := h8.out.2.perm (show _ = ownAt TBay 2 (.slice (some ⟨g, 0, none⟩) S.bays.length cap) S.bays.length (baysL ps S.bays) * (pts p (.cells (shelfC S.cfg (.slice (some ⟨g, 0, none⟩) S.bays.length cap) (.slice ao' (S.images.length + 1) cp') S.off S.fused S.left) TSh (0, 0)) * (ownAt TPtr 1 (.slice ao' (S.images.length + 1) cp') (S.images.length + 1) (qs.map ptrV ++ [.pointer (some ⟨q, 0, none⟩)]) *
        (diskAt TD TS q' ShelfM.d0 * (diskAt TD TS q D * (R * (disksAt TD TS qs S.images * F)))))) from by ac_rfl)
  have hs4 := ownAt_set (ownAt_set hs3 (by omega) rfl (j := k * 2) (ptrV q')) (by omega) rfl (j := k * 2 + 1) (.int .i64 2)
  have H9 := Lib.hid (And.intro (Same.setCells [ptrV q', .int .i64 2] (o := 0 + k * 2) (b := g) h8.out.1) (show Sat (w8.setCells g (0 + k * 2) [ptrV q', .int .i64 2]) _ from by rw [show 0 + k * 2 = k * 2 by omega]; exact hs4))
  have c7 : (w8.setCells g (0 + k * 2) [ptrV q', .int .i64 2]).cell? ⟨p, 7, none⟩ = some (.slice ao' (S.images.length + 1) cp') := cells_at H9.out.2.right.block 7
  clear q6 q7 b0 t0 hS0 r6 r7 rb rt hS8 hs3 hs4 H7 h8
  generalize w8.setCells g (0 + k * 2) [ptrV q', .int .i64 2] = w9 at H9 c7 ⊢
  rw [HNM.out.2] at c7 hil
  go_wp2
  go_ret2
  unfold RemOut
  rw [HK.out]
  refine ⟨?_, H9.out.1, ?_⟩
  · rw [HNM.out.2]; first | rfl | (congr 3; simp) | skip
  · refine shelfAt_iff.2 ⟨.slice (some ⟨g, 0, none⟩) S.bays.length cap, .slice ao' (S.images.length + 1) cp', ps.set k q', qs ++ [q], ⟨?_, ?_, ?_⟩, ?_⟩
    · have h5 := HWF.out.setBay (k : Int) (b := ⟨ShelfM.d0, 2⟩) ⟨.inr (.inl rfl), fun h => by simp at h⟩
      refine ⟨h5.cfg, h5.bays, h5.st, fun E hE => ?_, h5.left⟩
      rcases List.mem_append.1 hE with h | h
      · exact HWF.out.images E h
      · simp at h; subst h
        have := ShelfM.disk_n HWF.out (d := (k : Int)) HST.out
        exact this
    · show (ps.set k q').length = (S.bays.set k _).length
      rw [List.length_set, List.length_set]; exact HL.out.1
    · show (qs ++ [q]).length = (S.images ++ [(S.disk k).cut []]).length
      rw [List.length_append, List.length_append, HL.out.2.1]; rfl
    · show Sat w9 (pts p _ * (ownAt TBay 2 _ (S.bays.set k ⟨ShelfM.d0, 2⟩).length (baysL (ps.set k q') (S.bays.set k ⟨ShelfM.d0, 2⟩)) * (ownAt TPtr 1 _ (S.images ++ [(S.disk k).cut []]).length ((qs ++ [q]).map ptrV) * (disksAt TD TS (ps.set k q') ((S.bays.set k ⟨ShelfM.d0, 2⟩).map BayM.disk) * (disksAt TD TS (qs ++ [q]) (S.images ++ [(S.disk k).cut []]) * F)))))
      rw [HD.out, show TD = SH.disk from rfl, show TS = SH.sec from rfl, HR.out, disksAt_app _ _ _ _ HL.out.2.1, baysL_set _ _ _ _ _ HL.out.1, List.length_set, List.length_append, List.map_append]
      exact H9.out.2.perm (show _ = pts p (.cells (shelfC S.cfg (.slice (some ⟨g, 0, none⟩) S.bays.length cap) (.slice ao' (S.images.length + 1) cp') S.off S.fused S.left) TSh (0, 0)) * (ownAt TBay 2 (.slice (some ⟨g, 0, none⟩) S.bays.length cap) S.bays.length (((baysL ps S.bays).set (k * 2) (ptrV q')).set (k * 2 + 1) (.int .i64 2)) * (ownAt TPtr 1 (.slice ao' (S.images.length + 1) cp') (S.images.length + 1) (qs.map ptrV ++ [.pointer (some ⟨q, 0, none⟩)]) * (diskAt TD TS q' ShelfM.d0 * R * (disksAt TD TS qs S.images * diskAt TD TS q D * F)))) from by ac_rfl)
end Go.Proofs.YtogmkbhbmmgidaaGreat
end
