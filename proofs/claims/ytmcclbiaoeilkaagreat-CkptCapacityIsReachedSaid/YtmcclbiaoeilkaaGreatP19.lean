import Derived.Test.YtmcclbiaoeilkaaGreatP10
import Derived.Test.YtmcclbiaoeilkaaGreatP15
import Derived.Test.YtmcclbiaoeilkaaGreatP18
/- Part 19 of a proof; the last part says what is proved. -/
section
namespace Go.Proofs.YtmcclbiaoeilkaaGreat
open Go.RowKit Go.Sl Go.ChangeMaps
def ReadOut (p : Nat) (S : ShelfM) (F : HProp) (r : List UInt8 × Int) (w : World) (e : Ending) (w' : World) : Prop := e = .returned (.tuple #[.string (strB r.1), .int .i64 r.2]) ∧ Same w w' ∧ Sat w' (shelfAt SH p S * F)
set_option maxRecDepth 100000 in
set_option maxHeartbeats 1000000 in
theorem sread_any (p : Nat) (S : ShelfM) (F : HProp) (a : PlaceM) (w : World) (hS : Sat w (shelfAt SH p S * F)) :
    Calls Tryz.prog 77 #[.pointer (some ⟨p, 0, none⟩), .agg (plA a)] w (ReadOut p S F (S.read a) w) := by
  have hwf := shelfAt_wf hS
  have hnum := number_any p S F a (w.alloc (.cells (plA a) TPl)) (hS.allocKeep _)
  have hA := (hS.alloc (.cells (plA a) TPl)).perm (show _ = shelfAt SH p S * (pts w.heap.size (.cells (plA a) TPl (0, 0)) * F) from by ac_rfl)
  have hrd : S.read a = if S.number a < 0 then ([], 1) else if S.access a.disk ≠ 0 then ([], S.access a.disk) else (S.disk a.disk).read (S.number a) := rfl
  obtain ⟨x, hx⟩ : ∃ x, S.number a = x := ⟨_, rfl⟩
  rw [hx] at hnum hrd
  have HX := Lib.hid hx
  have H1 := Lib.hid (And.intro ((Same.refl w).alloc (.cells (plA a) TPl)) hA)
  clear hA hS
  by_cases h0 : x < 0
  · rw [if_pos h0] at hrd
    rw [hrd]
    have hb : decide (x < 0) = true := decide_eq_true h0
    clear hrd h0 hwf hx
    go_enter Tryz.func77, Tryz.ntmps77
    go_wp2_with (go_at_call 90; refine hnum.mono ?_; rintro e w1 ⟨rfl, hb1⟩; replace H1 := Lib.hid (And.intro (H1.out.1.below hb1.out) (H1.out.2.below hb1.out)); clear hb1)
    go_ret2
    exact ⟨rfl, H1.out.1, (H1.out.2.perm (show _ = pts w.heap.size (.cells (plA a) TPl (0, 0)) * (shelfAt SH p S * F) from by ac_rfl)).right⟩
  rw [if_neg h0] at hrd
  have hb : decide (x < 0) = false := decide_eq_false h0
  have hn0 : 0 ≤ S.number a := by omega
  have hst := (ShelfM.number_lt hwf hn0).1
  have hin := ShelfM.state_in hwf hst
  have HST := Lib.hid hst
  obtain ⟨⟨d, ar, ix⟩, ha⟩ : ∃ b : PlaceM, a = b := ⟨_, rfl⟩
  subst ha
  simp only at *
  obtain ⟨k, rfl⟩ := Int.eq_ofNat_of_zero_le hin.1
  have hk := hin.2
  clear hn0 hin hwf hx h0 hst
  go_enter Tryz.func77, Tryz.ntmps77
  go_upto_region 4 with (go_at_call 90; refine hnum.mono ?_; rintro e w1 ⟨rfl, hb1⟩; replace H1 := Lib.hid (And.intro (H1.out.1.below hb1.out) (H1.out.2.below hb1.out)); clear hb1)
  generalize w.heap.size = B at H1 ⊢
  have c0 : w1.cell? ⟨B, 0, none⟩ = some (.int .i64 (k : Int)) := cells_at (H1.out.2.perm (show _ = pts B (.cells (plA ⟨(k : Int), ar, ix⟩) TPl (0, 0)) * (shelfAt SH p S * F) from by ac_rfl)).block 0
  have hacc := access_any p S _ k w1 H1.out.2 HST.out
  obtain ⟨ac, hac⟩ : ∃ ac, S.access (k : Int) = ac := ⟨_, rfl⟩
  rw [hac] at hacc hrd
  by_cases ha : ac = 0
  case neg =>
    rw [if_pos ha] at hrd
    have HRD := Lib.hid hrd
    have hab : (ac != 0) = true := by simp [ha]
    clear hrd ha hac
    go_wp2_with (go_at_call 120; refine hacc.mono ?_; rintro e w' ⟨rfl, rfl⟩; clear hacc)
    go_ret2
    rw [HRD.out]
    exact ⟨rfl, H1.out.1, (H1.out.2.perm (show _ = pts B (.cells (plA ⟨(k : Int), ar, ix⟩) TPl (0, 0)) * (shelfAt SH p S * F) from by ac_rfl)).right⟩
  rw [if_neg (by simp [ha])] at hrd
  subst ha
  have HRD := Lib.hid hrd
  clear hrd hac
  go_upto_region 7 with (go_at_call 120; refine hacc.mono ?_; rintro e w' ⟨rfl, rfl⟩; clear hacc)
  obtain ⟨g, cap', q, vi, G, hs, ⟨hpg, hg⟩, b0, b1, hf, hcl, hbc⟩ := shelf_bay H1.out.2 (d := k) (by omega)
  obtain ⟨⟨q6, q7, q8, q9, q10⟩, hp, hfp, hra⟩ := shelf_cells hs
  obtain ⟨n, hnn⟩ : ∃ n, S.bays.length = n := ⟨_, rfl⟩
  rw [hnn] at q6 hk
  have hrdd := read_any q (S.disk k) (pts p (.cells (shelfC S.cfg (.slice (some ⟨g, 0, none⟩) S.bays.length cap') vi S.off S.fused S.left) TSh (0, 0)) * ((pts B (.cells (plA ⟨(k : Int), ar, ix⟩) TPl (0, 0)) * F) * G)) x w1.drew (hs.drew.perm (by ac_rfl))
  obtain ⟨⟨t, ek⟩, hr⟩ : ∃ r, (S.disk k).read x = r := ⟨_, rfl⟩
  rw [hr] at hrdd
  have hrd2 : S.read ⟨(k : Int), ar, ix⟩ = (t, ek) := by rw [HRD.out]; exact hr
  have HRD2 := Lib.hid hrd2
  simp only at hrdd
  obtain ⟨tib, htib⟩ : ∃ ti, Tryz.prog.info? TBay = some ti ∧ ti.size = 2 := by have := infoBay (ptrV 0) (ptrV 0); obtain ⟨ti, h1, h2⟩ := Option.map_eq_some_iff.1 this; exact ⟨ti, h1, h2⟩
  have htb := htib.1
  have htb2 := htib.2
  unfold ptrV at b0
  clear hs hf hcl hbc hfp hra hnn htib hr hrd2
  have hS0 : w1.drew.cell? ⟨p, 6, none⟩ = some (.slice (some ⟨g, 0, none⟩) n cap') ∧ w1.drew.cell? ⟨B, 0, none⟩ = some (.int .i64 (k : Int)) ∧ w1.drew.cell? ⟨g, 0 + k * 2, none⟩ = some (.pointer (some ⟨q, 0, none⟩)) := ⟨q6, c0, by rw [Nat.zero_add]; exact b0⟩
  refine reg_begin (fun w' => w'.cell? ⟨p, 6, none⟩ = some (.slice (some ⟨g, 0, none⟩) n cap') ∧ w'.cell? ⟨B, 0, none⟩ = some (.int .i64 (k : Int)) ∧ w'.cell? ⟨g, 0 + k * 2, none⟩ = some (.pointer (some ⟨q, 0, none⟩))) (by kernel_rfl) ?_
  (apply reg_take 0 rfl rfl (by decide +kernel) rfl); (rintro w' ⟨h1, h2, h3⟩; go_simp; rfl); exact hS0; simp only [List.setIfInBounds_toArray, List.set_cons_succ, List.set_cons_zero]
  (apply reg_take 1 rfl rfl (by decide +kernel) rfl); (rintro w' ⟨h1, h2, h3⟩; go_simp; rfl); exact hS0; simp only [List.setIfInBounds_toArray, List.set_cons_succ, List.set_cons_zero]
  (apply reg_take 2 rfl rfl (by decide +kernel) rfl); (rintro w' ⟨h1, h2, h3⟩; go_simp; rfl); exact hS0; simp only [List.setIfInBounds_toArray, List.set_cons_succ, List.set_cons_zero]
  (apply reg_take 3 rfl rfl (by decide +kernel) rfl); (rintro w' ⟨h1, h2, h3⟩; go_simp; rfl); exact hS0; simp only [List.setIfInBounds_toArray, List.set_cons_succ, List.set_cons_zero]
  (apply reg_take 4 rfl rfl (by decide +kernel) rfl); (rintro w' ⟨h1, h2, h3⟩; go_simp; rfl); exact hS0; simp only [List.setIfInBounds_toArray, List.set_cons_succ, List.set_cons_zero]
  (apply reg_take 5 rfl rfl (by decide +kernel) rfl); (rintro w' ⟨h1, h2, h3⟩; go_simp; rfl); exact hS0; simp only [List.setIfInBounds_toArray, List.set_cons_succ, List.set_cons_zero]
  refine reg_take 6 (v := .pointer (some ⟨g, 0 + k * 2, none⟩)) rfl rfl (by decide +kernel) rfl (fun _ _ => exec_index_slice rfl rfl rfl Tryz.underlying76 htb htb2 (by omega)) hS0 ?_; simp only [List.setIfInBounds_toArray, List.set_cons_succ, List.set_cons_zero]
  (apply reg_take 7 rfl rfl (by decide +kernel) rfl); (rintro w' ⟨h1, h2, h3⟩; rw [Nat.zero_add] at h3; go_simp; rfl); exact hS0; simp only [List.setIfInBounds_toArray, List.set_cons_succ, List.set_cons_zero]
  (apply reg_take 8 rfl rfl (by decide +kernel) rfl); (rintro w' ⟨h1, h2, h3⟩; rw [Nat.zero_add] at h3; go_simp; rfl); exact hS0; simp only [List.setIfInBounds_toArray, List.set_cons_succ, List.set_cons_zero]
  (apply reg_take 9 rfl rfl (by decide +kernel) rfl); (rintro w' ⟨h1, h2, h3⟩; rw [Nat.zero_add] at h3; go_simp; rfl); exact hS0; simp only [List.setIfInBounds_toArray, List.set_cons_succ, List.set_cons_zero]
  refine reg_call 10 rfl rfl (by decide +kernel) rfl (f := 73) (args := #[.pointer (some ⟨q, 0, none⟩), .int .i64 x]) (R := fun v w' => v = .tuple #[.string (strB t), .int .i64 ek] ∧ Hid (Below w1.heap.size w1 w')) (by kernel_rfl) (hrdd.mono fun e w' h => ⟨_, h.1, rfl, ⟨h.2.os, h.2.tape, h.2.output, h.2.size, h.2.block⟩⟩) ?_
  rintro _ w2 ⟨rfl, hb2⟩
  have hBlt : B < w1.heap.size := World.block_lt_of_cell? _ _ c0
  have hS1 : w2.cell? ⟨p, 6, none⟩ = some (.slice (some ⟨g, 0, none⟩) n cap') ∧ w2.cell? ⟨B, 0, none⟩ = some (.int .i64 (k : Int)) ∧ w2.cell? ⟨g, 0 + k * 2, none⟩ = some (.pointer (some ⟨q, 0, none⟩)) := ⟨(hb2.out.cell (p := ⟨p, 6, none⟩) hp).trans q6, (hb2.out.cell (p := ⟨B, 0, none⟩) hBlt).trans c0, (hb2.out.cell (p := ⟨g, 0 + k * 2, none⟩) hg).trans (by rw [Nat.zero_add]; exact b0)⟩
  refine ⟨hS1, ?_⟩
  simp only [List.setIfInBounds_toArray, List.set_cons_succ, List.set_cons_zero]
  (apply reg_take 11 rfl rfl (by decide +kernel) rfl); (rintro w' ⟨h1, h2, h3⟩; go_simp; rfl); exact hS1; simp only [List.setIfInBounds_toArray, List.set_cons_succ, List.set_cons_zero]
  (apply reg_take 12 rfl rfl (by decide +kernel) rfl); (rintro w' ⟨h1, h2, h3⟩; go_simp; rfl); exact hS1; simp only [List.setIfInBounds_toArray, List.set_cons_succ, List.set_cons_zero]
  (apply reg_take 13 rfl rfl (by decide +kernel) rfl); (rintro w' ⟨h1, h2, h3⟩; go_simp; rfl); exact hS1; simp only [List.setIfInBounds_toArray, List.set_cons_succ, List.set_cons_zero]
  (apply reg_take 14 rfl rfl (by decide +kernel) rfl); (rintro w' ⟨h1, h2, h3⟩; go_simp; rfl); exact hS1; simp only [List.setIfInBounds_toArray, List.set_cons_succ, List.set_cons_zero]
  refine reg_done (by decide +kernel) ?_
  go_wp2
  go_ret2
  rw [HRD2.out]
  exact ⟨rfl, H1.out.1.below hb2.out, ((H1.out.2.below hb2.out).perm (show _ = pts B (.cells (plA ⟨(k : Int), ar, ix⟩) TPl (0, 0)) * (shelfAt SH p S * F) from by ac_rfl)).right⟩
end Go.Proofs.YtmcclbiaoeilkaaGreat
end
section
namespace Go.Proofs.YtmcclbiaoeilkaaGreat
open Go.RowKit Go.Sl Go.ChangeMaps
abbrev TShq : TypeId := 27
def opnR (S : ShelfM) (d area i : Int) : GenM × List UInt8 × Int :=
  if (S.read ⟨d, area, i⟩).2 ≠ 0 then (g0, [], (S.read ⟨d, area, i⟩).2) else match openAt S d area i with
    | none => (g0, [], 12)
    | some (g, p) => (g, p, 0)
theorem shelf_disk_wf {p : Nat} {S : ShelfM} {F : HProp} {w : World} (hS : Sat w (shelfAt SH p S * F)) {d : Int} (h0 : 0 ≤ d) (h1 : d < (S.bays.length : Int)) : (S.disk d).WF := by
  obtain ⟨k, rfl⟩ := Int.eq_ofNat_of_zero_le h0
  obtain ⟨g, cap, q, vi, G, hs, _⟩ := shelf_bay hS (d := k) (by omega)
  exact diskAt_wf hs.right
theorem content_len {D : DiskM} (h : D.WF) {i : Nat} (hi : i < D.n) : (D.content i).length = 64 := by
  unfold DiskM.content
  cases hc : D.cache i with
  | none => exact h.dur i hi
  | some s => exact (h.cache i s hc).2
theorem read_ok {p : Nat} {S : ShelfM} {F : HProp} {w : World} (hS : Sat w (shelfAt SH p S * F)) {a : PlaceM} (h : (S.read a).2 = 0) : placeOK a = true ∧ (S.read a).1.length = 64 := by
  have hwf := shelfAt_wf hS
  unfold ShelfM.read at h ⊢
  split at h
  · cases h
  rename_i hn
  split at h
  · rename_i h1; exact absurd h h1
  rename_i ha
  rw [if_neg hn, if_neg ha]
  obtain ⟨h1, h2, h3, h4, h5, h6, h7⟩ := ShelfM.number_lt hwf (a := a) (by omega)
  obtain ⟨hd0, hd1⟩ := ShelfM.state_in hwf h1
  have hb := hwf.bays
  have hdk := hwf.cfg.disks
  have hsz : S.cfg.size a.area ≤ 65536 := by
    have := hwf.cfg.log; have := hwf.cfg.image; have := hwf.cfg.rows
    unfold CfgM.size
    split; omega
    split; omega
    split; omega
    split; omega
    omega
  refine ⟨placeOK_iff.2 ⟨hd0, by omega, h2, h3, h4, by omega⟩, ?_⟩
  have hD := shelf_disk_wf hS hd0 hd1
  unfold DiskM.read at h ⊢
  split at h
  · rename_i hh
    rw [if_pos hh]
    unfold DiskM.has at hh
    simp only [Bool.and_eq_true, decide_eq_true_eq] at hh
    exact content_len hD (by omega)
  · cases h
set_option maxRecDepth 20000 in
set_option maxHeartbeats 4000000 in
theorem ckopen_any (p : Nat) (S : ShelfM) (F : HProp) (dB aB sB : Nat) (d area i : Int) (w : World) (hS : Sat w (shelfAt SH p S * (pts sB (.cells #[ptrV p] TShq (0, 0)) * (pts dB (.cells #[.int .i64 d] TInt (0, 0)) * (pts aB (.cells #[.int .i64 area] TInt (0, 0)) * F))))) :
    Calls Tryz.prog 76 #[.int .i64 i, ptrV dB, ptrV aB, ptrV sB] w fun e w' => e = .returned (.tuple #[.agg (genA (opnR S d area i).1), .string (strB (opnR S d area i).2.1), .int .i64 (opnR S d area i).2.2]) ∧
      Hid (Same w w' ∧ Sat w' (shelfAt SH p S * (pts sB (.cells #[ptrV p] TShq (0, 0)) * (pts dB (.cells #[.int .i64 d] TInt (0, 0)) * (pts aB (.cells #[.int .i64 area] TInt (0, 0)) * F))))) := by
  obtain ⟨G, hG⟩ : ∃ G, G = pts sB (.cells #[ptrV p] TShq (0, 0)) * (pts dB (.cells #[.int .i64 d] TInt (0, 0)) * (pts aB (.cells #[.int .i64 area] TInt (0, 0)) * F)) := ⟨_, rfl⟩
  rw [← hG] at hS ⊢
  have HCL := Lib.hid (show ∀ (W : World) (X : HProp), Sat W (X * G) → W.cell? ⟨sB, 0, none⟩ = some (.pointer (some ⟨p, 0, none⟩)) ∧ W.cell? ⟨dB, 0, none⟩ = some (.int .i64 d) ∧ W.cell? ⟨aB, 0, none⟩ = some (.int .i64 area) from fun W X h => by
    rw [hG] at h
    exact ⟨cells_at h.right.block 0, cells_at h.right.right.block 0, cells_at h.right.right.right.block 0⟩)
  clear hG
  have HR := Lib.hid (show ∀ (W : World) (X : HProp), Sat W (shelfAt SH p S * X) → Calls Tryz.prog 77 #[.pointer (some ⟨p, 0, none⟩), .agg (plA ⟨d, area, i⟩)] W (ReadOut p S X (S.read ⟨d, area, i⟩) W) from fun W X h => sread_any p S X ⟨d, area, i⟩ W h)
  have H0 := Lib.hid (And.intro ((Same.refl w).alloc (.cells #[.int .i64 0, .int .i64 0] TGen)) (hS.alloc (.cells #[.int .i64 0, .int .i64 0] TGen)))
  have HOK := Lib.hid (fun h => read_ok hS (a := ⟨d, area, i⟩) h)
  obtain ⟨R, hR⟩ : ∃ R, opnR S d area i = R := ⟨_, rfl⟩
  rw [hR]
  have hop : R = if (S.read ⟨d, area, i⟩).2 ≠ 0 then (g0, [], (S.read ⟨d, area, i⟩).2) else match openM ⟨d, area, i⟩ (S.read ⟨d, area, i⟩).1 with
    | none => (g0, [], 12)
    | some (g, p) => (g, p, 0) := by rw [← hR]; rfl
  have HOP := Lib.hid hop
  obtain ⟨c1, c2, c3⟩ := HCL.out _ _ hS
  have l1 : sB < w.heap.size := World.block_lt_of_cell? _ _ c1
  have l2 : dB < w.heap.size := World.block_lt_of_cell? _ _ c2
  have l3 : aB < w.heap.size := World.block_lt_of_cell? _ _ c3
  obtain ⟨rd, hrd⟩ : ∃ rd, S.read ⟨d, area, i⟩ = rd := ⟨_, rfl⟩
  rw [hrd] at HR HOK HOP
  unfold ReadOut at HR
  clear hS hR hop hrd
  unfold ptrV
  go_enter Tryz.func76, Tryz.ntmps76
  go_upto_region 2 with (fail)
  have hA := (H0.out.2.alloc (.cells #[.int .i64 d, .int .i64 area, .int .i64 i] TPl))
  have hsm := H0.out.1.alloc (.cells #[.int .i64 d, .int .i64 area, .int .i64 i] TPl)
  rw [World.size_alloc] at hA
  clear c1 c2 c3 l1 l2 l3 H0
  generalize (w.alloc (.cells #[.int .i64 0, .int .i64 0] TGen)).alloc (.cells #[.int .i64 d, .int .i64 area, .int .i64 i] TPl) = w1 at hA hsm ⊢
  generalize w.heap.size + 1 = B8 at hA ⊢
  generalize w.heap.size = B5 at hA ⊢
  have H1 := Lib.hid (show Same w w1 ∧ Sat w1 (shelfAt SH p S * (pts B8 (.cells #[.int .i64 d, .int .i64 area, .int .i64 i] TPl (0, 0)) * (pts B5 (.cells #[.int .i64 0, .int .i64 0] TGen (0, 0)) * G))) from ⟨hsm, hA.perm (by ac_rfl)⟩)
  clear hA hsm
  have HC2 := Lib.hid (show ∀ (W : World), Sat W (shelfAt SH p S * (pts B8 (.cells #[.int .i64 d, .int .i64 area, .int .i64 i] TPl (0, 0)) * (pts B5 (.cells #[.int .i64 0, .int .i64 0] TGen (0, 0)) * G))) → W.cell? ⟨sB, 0, none⟩ = some (.pointer (some ⟨p, 0, none⟩)) ∧ (W.cell? ⟨B8, 0, none⟩ = some (.int .i64 d) ∧ W.cell? ⟨B8, 1, none⟩ = some (.int .i64 area) ∧ W.cell? ⟨B8, 2, none⟩ = some (.int .i64 i)) ∧ (W.cell? ⟨B5, 0, none⟩ = some (.int .i64 0) ∧ W.cell? ⟨B5, 1, none⟩ = some (.int .i64 0) ∧ W.frozen? ⟨B5, 0, none⟩ = false ∧ W.frozen? ⟨B5, 1, none⟩ = false) from fun W h => by
    have h2 := h.right
    have h3 := h.right.right
    exact ⟨(HCL.out W (shelfAt SH p S * (pts B8 (.cells #[.int .i64 d, .int .i64 area, .int .i64 i] TPl (0, 0)) * pts B5 (.cells #[.int .i64 0, .int .i64 0] TGen (0, 0)))) (h.perm (by ac_rfl))).1, ⟨cells_at h2.block 0, cells_at h2.block 1, cells_at h2.block 2⟩, cells_at h3.block 0, cells_at h3.block 1, thawed_at h3.block 0, thawed_at h3.block 1⟩)
  obtain ⟨d0, ⟨q0, q1, q2⟩, g0', g1', f0, f1⟩ := HC2.out w1 H1.out.2
  obtain ⟨s, er⟩ := rd
  have HFIN := Lib.hid (show ∀ (W : World) (x y : Int), Same w W → Sat W (shelfAt SH p S * (pts B8 (.cells #[.int .i64 d, .int .i64 area, .int .i64 i] TPl (0, 0)) * (pts B5 (.cells #[.int .i64 x, .int .i64 y] TGen (0, 0)) * G))) → Same w W ∧ Sat W (shelfAt SH p S * G) from fun W x y h1 h2 => ⟨h1, (h2.perm (show _ = (pts B8 (.cells #[.int .i64 d, .int .i64 area, .int .i64 i] TPl (0, 0)) * pts B5 (.cells #[.int .i64 x, .int .i64 y] TGen (0, 0))) * (shelfAt SH p S * G) from by ac_rfl)).right⟩)
  by_cases he : er = 0
  case neg =>
    have hed : (er != 0) = true := bne_iff_ne.2 he
    have hR : R = (g0, [], er) := by rw [HOP.out]; exact if_pos he
    clear he HOK HOP
    go_wp2_with (go_at_call 77; refine (HR.out w1 _ H1.out.2).mono ?_; rintro e w2 ⟨rfl, hm2, hs2⟩; replace H1 := Lib.hid (And.intro (H1.out.1.trans hm2) hs2); clear d0 q0 q1 q2 g0' g1' f0 f1; obtain ⟨d0, ⟨q0, q1, q2⟩, g0', g1', f0, f1⟩ := HC2.out _ hs2; clear hm2 hs2)
    have H2 := Lib.hid (show Same w ((w2.setCell ⟨B5, 0, none⟩ (.int .i64 0)).setCell ⟨B5, 1, none⟩ (.int .i64 0)) ∧ Sat ((w2.setCell ⟨B5, 0, none⟩ (.int .i64 0)).setCell ⟨B5, 1, none⟩ (.int .i64 0)) (pts B5 (.cells #[.int .i64 0, .int .i64 0] TGen (0, 0)) * (shelfAt SH p S * (pts B8 (.cells #[.int .i64 d, .int .i64 area, .int .i64 i] TPl (0, 0)) * G))) from ⟨(H1.out.1.setCell _ _).setCell _ _, ((H1.out.2.perm (show _ = pts B5 (.cells #[.int .i64 0, .int .i64 0] TGen (0, 0)) * (shelfAt SH p S * (pts B8 (.cells #[.int .i64 d, .int .i64 area, .int .i64 i] TPl (0, 0)) * G)) from by ac_rfl)).setCell (i := 0) (.int .i64 0)).setCell (i := 1) (.int .i64 0)⟩)
    refine bodyPost_ret (v := .tuple #[.agg #[.int .i64 0, .int .i64 0], .string (strB []), .int .i64 er]) (results3 Tryz.results76 (ResIs.row rfl H2.out.2.block Tryz.underlying42 rfl (infoGen rfl)) (.tmp rfl) (.tmp rfl)) rfl ?_
    exact ⟨by rw [hR]; try rfl, HFIN.out _ 0 0 H2.out.1 (H2.out.2.perm (by ac_rfl))⟩
  case pos =>
    subst he
    have hed : ((0 : Int) != 0) = false := rfl
    obtain ⟨ha, hl⟩ := HOK.out rfl
    simp only at hl
    have hR0 : R = match openM ⟨d, area, i⟩ s with
      | none => (g0, [], 12)
      | some (g, p) => (g, p, 0) := by rw [HOP.out]; exact if_neg (by simp)
    have HO := Lib.hid (show ∀ (W : World) (X : HProp), Sat W X → _ from fun W X h => open_any ⟨d, area, i⟩ s ha hl X W h)
    clear HOK HOP hl
    cases hop : openM ⟨d, area, i⟩ s with
    | none =>
      have hR : R = (g0, [], 12) := by rw [hR0, hop]
      rw [hop] at HO
      clear hR0 hop
      go_wp2_with (first
        | (go_at_call 77; refine (HR.out w1 _ H1.out.2).mono ?_; rintro e w2 ⟨rfl, hm2, hs2⟩; replace H1 := Lib.hid (And.intro (H1.out.1.trans hm2) hs2); clear d0 q0 q1 q2 g0' g1' f0 f1; obtain ⟨d0, ⟨q0, q1, q2⟩, g0', g1', f0, f1⟩ := HC2.out _ hs2; clear hm2 hs2)
        | (go_at_call 78; refine (HO.out w2 _ H1.out.2).mono ?_; rintro e w3 ⟨k, hk, rfl, h3⟩; have hk0 : (k != 0) = true := bne_iff_ne.2 (fun h => nomatch hk.1 h); replace H1 := Lib.hid (And.intro (H1.out.1.trans h3.out.1) h3.out.2); clear d0 q0 q1 q2 g0' g1' f0 f1; obtain ⟨d0, ⟨q0, q1, q2⟩, g0', g1', f0, f1⟩ := HC2.out _ h3.out.2; have lb := World.block_lt_of_cell? _ _ g0'; unfold openA zGen; clear h3 hk))
      have H2 := Lib.hid (show Same w ((w3.setCell ⟨B5, 0, none⟩ (.int .i64 0)).setCell ⟨B5, 1, none⟩ (.int .i64 0)) ∧ Sat ((w3.setCell ⟨B5, 0, none⟩ (.int .i64 0)).setCell ⟨B5, 1, none⟩ (.int .i64 0)) (pts B5 (.cells #[.int .i64 0, .int .i64 0] TGen (0, 0)) * (shelfAt SH p S * (pts B8 (.cells #[.int .i64 d, .int .i64 area, .int .i64 i] TPl (0, 0)) * G))) from ⟨(H1.out.1.setCell _ _).setCell _ _, ((H1.out.2.perm (show _ = pts B5 (.cells #[.int .i64 0, .int .i64 0] TGen (0, 0)) * (shelfAt SH p S * (pts B8 (.cells #[.int .i64 d, .int .i64 area, .int .i64 i] TPl (0, 0)) * G)) from by ac_rfl)).setCell (i := 0) (.int .i64 0)).setCell (i := 1) (.int .i64 0)⟩)
      replace H2 := Lib.hid (And.intro (H2.out.1.alloc (.cells #[.int .i64 0, .int .i64 0] TGen)) (H2.out.2.allocKeep (.cells #[.int .i64 0, .int .i64 0] TGen)))
      refine bodyPost_ret (v := .tuple #[.agg #[.int .i64 0, .int .i64 0], .string (strB []), .int .i64 12]) (results3 Tryz.results76 (ResIs.row rfl H2.out.2.block Tryz.underlying42 rfl (infoGen rfl)) (.tmp rfl) (.tmp rfl)) rfl ?_
      exact ⟨by rw [hR]; try rfl, HFIN.out _ 0 0 H2.out.1 (H2.out.2.perm (by ac_rfl))⟩
    | some gp =>
      obtain ⟨⟨ge, gc⟩, pl⟩ := gp
      have hR : R = (⟨ge, gc⟩, pl, 0) := by rw [hR0, hop]
      rw [hop] at HO
      clear hR0 hop
      go_wp2_with (first
        | (go_at_call 77; refine (HR.out w1 _ H1.out.2).mono ?_; rintro e w2 ⟨rfl, hm2, hs2⟩; replace H1 := Lib.hid (And.intro (H1.out.1.trans hm2) hs2); clear d0 q0 q1 q2 g0' g1' f0 f1; obtain ⟨d0, ⟨q0, q1, q2⟩, g0', g1', f0, f1⟩ := HC2.out _ hs2; clear hm2 hs2)
        | (go_at_call 78; refine (HO.out w2 _ H1.out.2).mono ?_; rintro e w3 ⟨k, hk, rfl, h3⟩; obtain rfl : k = 0 := (by simpa using hk); replace H1 := Lib.hid (And.intro (H1.out.1.trans h3.out.1) h3.out.2); clear d0 q0 q1 q2 g0' g1' f0 f1; obtain ⟨d0, ⟨q0, q1, q2⟩, g0', g1', f0, f1⟩ := HC2.out _ h3.out.2; have lb := World.block_lt_of_cell? _ _ g0'; unfold openA; clear h3 hk))
      have H2 := Lib.hid (show Same w ((w3.setCell ⟨B5, 0, none⟩ (.int .i64 ge)).setCell ⟨B5, 1, none⟩ (.int .i64 gc)) ∧ Sat ((w3.setCell ⟨B5, 0, none⟩ (.int .i64 ge)).setCell ⟨B5, 1, none⟩ (.int .i64 gc)) (pts B5 (.cells #[.int .i64 ge, .int .i64 gc] TGen (0, 0)) * (shelfAt SH p S * (pts B8 (.cells #[.int .i64 d, .int .i64 area, .int .i64 i] TPl (0, 0)) * G))) from ⟨(H1.out.1.setCell _ _).setCell _ _, ((H1.out.2.perm (show _ = pts B5 (.cells #[.int .i64 0, .int .i64 0] TGen (0, 0)) * (shelfAt SH p S * (pts B8 (.cells #[.int .i64 d, .int .i64 area, .int .i64 i] TPl (0, 0)) * G)) from by ac_rfl)).setCell (i := 0) (.int .i64 ge)).setCell (i := 1) (.int .i64 gc)⟩)
      replace H2 := Lib.hid (And.intro (H2.out.1.alloc (.cells #[.int .i64 ge, .int .i64 gc] TGen)) (H2.out.2.allocKeep (.cells #[.int .i64 ge, .int .i64 gc] TGen)))
      refine bodyPost_ret (v := .tuple #[.agg #[.int .i64 ge, .int .i64 gc], .string (strB pl), .int .i64 0]) (results3 Tryz.results76 (ResIs.row rfl H2.out.2.block Tryz.underlying42 rfl (infoGen rfl)) (.tmp rfl) (.tmp rfl)) rfl ?_
      exact ⟨by rw [hR]; try rfl, HFIN.out _ ge gc H2.out.1 (H2.out.2.perm (by ac_rfl))⟩
end Go.Proofs.YtmcclbiaoeilkaaGreat
end
