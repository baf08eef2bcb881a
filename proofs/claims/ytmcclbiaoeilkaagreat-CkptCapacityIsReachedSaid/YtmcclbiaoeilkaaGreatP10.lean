import Derived.Test.YtmcclbiaoeilkaaGreatP08
import Derived.Test.YtmcclbiaoeilkaaGreatP09
import Derived.Deep.Cut
import Derived.Deep.DeepCutAuto
import Derived.Test.YtmcclbiaoeilkaaGreatP06
/- Part 10 of a proof; the last part says what is proved. -/
section
namespace Go.Proofs.YtmcclbiaoeilkaaGreat
open Go.RowKit Go.Sl Go.ChangeMaps
theorem cf_flush (args : Array Value) (w : World) : (callFunc 94 args).run Tryz.prog w = .ok (.enter 94 args) w := by kernel_rfl
set_option maxHeartbeats 1000000 in
theorem step_anyV (p : Nat) (S : ShelfM) (vb : Value) (F : HProp) (d : Int) (f : FuncId) (cap : Array Value) (D' : DiskM) (hcf : ∀ args w, (callFunc f args).run Tryz.prog w = .ok (.enter f args) w) (hn : D'.n = (S.disk d).n) (hd : S.state d ≠ 0)
    (hex : S.state d = 1 → ∀ w' q G, Sat w' (diskAt TD TS q (S.disk d) * (F * G)) → Calls Tryz.prog f (#[.agg #[ptrV q, .int .i64 1]] ++ cap) w' fun e w'' => e = .returned (.tuple #[]) ∧ Hid (Same w' w'' ∧ Sat w'' (diskAt TD TS q D' * (F * G))))
    (w : World) (hV : Sat w (shelfV SH p S vb * F)) :
    Calls Tryz.prog 91 #[.pointer (some ⟨p, 0, none⟩), .int .i64 d, .func (.func f) #[] cap] w fun e w' => e = .returned (.int .i64 (S.step d fun _ => D').2) ∧ Hid (Same w w' ∧ Sat w' (shelfV SH p (S.step d fun _ => D').1 vb * F)) := by
  have hS : Sat w (shelfAt SH p S * F) := shelfAt_V.2 ⟨vb, hV⟩
  have hwf := shelfAt_wf hS
  have h := ShelfM.state_in hwf hd
  have hacc := access_any p S F d w hS hd
  have hst : S.step d (fun _ => D') = if S.off then (S, 14) else if S.state d ≠ 1 then (S, 15)
    else if S.fused then (if S.left = 0 then ({ S with off := true, fused := false }, 14) else (({ S with left := S.left - 1 } : ShelfM).setDisk d D', 0))
    else (S.setDisk d D', 0) := rfl
  have HS := Lib.hid hV
  by_cases ho : S.off = true
  · rw [if_pos ho] at hst
    have ha : S.access d = 14 := by unfold ShelfM.access; rw [if_pos ho]
    rw [hst]; rw [ha] at hacc
    clear hst hwf h hex hS hV ha ho hd
    go_enter Tryz.func91, Tryz.ntmps91
    go_wp2_with (go_at_call 120; refine hacc.mono ?_; rintro e w' ⟨rfl, rfl⟩)
    go_ret
    exact ⟨rfl, Same.refl w, HS.out⟩
  rw [if_neg ho] at hst
  by_cases h1 : S.state d = 1
  case neg =>
    rw [if_pos h1] at hst
    have ha : S.access d = 15 := by unfold ShelfM.access; rw [if_neg ho, if_neg h1]
    rw [hst]; rw [ha] at hacc
    clear hst hwf h hex hS hV ha ho hd h1
    go_enter Tryz.func91, Tryz.ntmps91
    go_wp2_with (go_at_call 120; refine hacc.mono ?_; rintro e w' ⟨rfl, rfl⟩)
    go_ret
    exact ⟨rfl, Same.refl w, HS.out⟩
  rw [if_neg (by simp [h1])] at hst
  have ha : S.access d = 0 := by unfold ShelfM.access; rw [if_neg ho, if_pos h1]
  rw [ha] at hacc
  have HEX := Lib.hid (hex h1)
  have hoff : S.off = false := by simpa using ho
  obtain ⟨k, rfl⟩ := Int.eq_ofNat_of_zero_le h.1
  obtain ⟨g, cap', q, vi, G, hvb, hs, ⟨hpg, hg⟩, b0, b1, hf, hcl, hbc⟩ := shelf_bayV hV (d := k) (by omega)
  have HVB := Lib.hid hvb
  rw [h1] at b1
  have HCL := Lib.hid hcl
  have HBC := Lib.hid hbc
  have HWF := Lib.hid hwf
  have H1 := Lib.hid h1
  have HN := Lib.hid hn
  have hk := h.2
  obtain ⟨⟨q6, q7, q8, q9, q10⟩, hp, hfp, hra⟩ := shelf_cells hs
  have HSS := Lib.hid hs
  obtain ⟨n, hnn⟩ : ∃ n, S.bays.length = n := ⟨_, rfl⟩
  rw [hnn] at q6 hk
  have HNN := Lib.hid hnn
  clear hcl hbc hex hS hV hvb hs ho ha hra h hnn hd hn
  cases hfu : S.fused
  · rw [hfu] at q9
    rw [if_neg (by simp [hfu])] at hst
    rw [hst]
    have HFU := Lib.hid hfu
    clear hst hwf hfu h1
    rw [hoff] at q8
    go_enter Tryz.func91, Tryz.ntmps91
    go_wp2_with (first
      | (go_at_call 120; refine hacc.mono ?_; rintro e w' ⟨rfl, rfl⟩)
      | (refine (HEX.out _ q (pts p (.cells (shelfC S.cfg (.slice (some ⟨g, 0, none⟩) S.bays.length cap') vi S.off S.fused S.left) TSh (0, 0)) * G) (HSS.out.perm (by ac_rfl))).mono ?_; rintro e w2 ⟨rfl, h2⟩))
    go_ret
    exact ⟨rfl, h2.out.1, HCL.out w2 (S.setDisk (k : Int) D') D' F (HWF.out.setDisk (by rw [H1.out]; decide) HN.out) rfl rfl rfl (h2.out.2.perm (by simp only [ShelfM.setDisk, ShelfM.setBay]; ac_rfl))⟩
  · rw [hfu] at q9
    rw [if_pos (by simp [hfu])] at hst
    have HFU := Lib.hid hfu
    have hlf := hwf.left hfu
    have hlf1 := hlf.1
    have hlf2 := hlf.2
    by_cases hl : S.left = 0
    · rw [if_pos hl] at hst
      rw [hst]
      rw [hl] at q10
      have hfin : Sat ((w.setCell ⟨p, 8, none⟩ (.bool true)).setCell ⟨p, 9, none⟩ (.bool false)) (shelfV SH p { S with off := true, fused := false } vb * F) := by
        refine Sat.shelfSetV HS.out ⟨hwf.cfg, hwf.bays, hwf.st, hwf.images, fun h => by cases h⟩ rfl rfl rfl ?_
        rintro _ _ vb vi G rfl rfl h
        exact (h.setCell _).setCell _
      have HF := Lib.hid hfin
      clear hst hwf hfu h1 hlf hfin hl hlf1 hlf2
      rw [hoff] at q8
      go_enter Tryz.func91, Tryz.ntmps91
      go_wp2_with (go_at_call 120; refine hacc.mono ?_; rintro e w' ⟨rfl, rfl⟩)
      go_ret
      exact ⟨rfl, ((Same.refl w).setCell _ _).setCell _ _, HF.out⟩
    · rw [if_neg hl] at hst
      rw [hst]
      have hl1 : (S.left == 0) = false := by simp [hl]
      have hs2 := HSS.out.setCell (i := 10) (.int .i64 (S.left - 1))
      have hs3 : Sat (w.setCell ⟨p, 10, none⟩ (.int .i64 (S.left - 1))) (pts p (.cells (shelfC S.cfg (.slice (some ⟨g, 0, none⟩) S.bays.length cap') vi S.off S.fused (S.left - 1)) TSh (0, 0)) * (diskAt TD TS q (S.disk k) * (F * G))) := hs2
      have HS3 := Lib.hid hs3
      have HL := Lib.hid (show S.fused = true → 0 ≤ S.left - 1 ∧ S.left - 1 < 9223372036854775808 from fun _ => by omega)
      have hlf3 : S.left - 1 < 9223372036854775808 := by omega
      have hlf4 : 0 ≤ S.left - 1 := by omega
      clear hst hwf hfu h1 hl hs2 hs3 hlf
      rw [hoff] at q8
      generalize hle : S.left = lf at q10 hlf1 hlf2 hl1 hlf3 hlf4
      have HLE := Lib.hid hle
      clear hle
      go_enter Tryz.func91, Tryz.ntmps91
      go_wp2_with (first
        | (go_at_call 120; refine hacc.mono ?_; rintro e w' ⟨rfl, rfl⟩)
        | (rw [← HLE.out]; refine (HEX.out _ q (pts p (.cells (shelfC S.cfg (.slice (some ⟨g, 0, none⟩) S.bays.length cap') vi S.off S.fused (S.left - 1)) TSh (0, 0)) * G) (HS3.out.perm (by ac_rfl))).mono ?_; rintro e w2 ⟨rfl, h2⟩))
      go_ret
      rw [← HLE.out]
      refine ⟨rfl, ((Same.refl w).setCell _ _).trans h2.out.1, HCL.out w2 (({ S with left := S.left - 1 } : ShelfM).setDisk (k : Int) D') D' F ?_ rfl rfl rfl (h2.out.2.perm (by simp only [ShelfM.setDisk, ShelfM.setBay]; ac_rfl))⟩
      have hw2 : ({ S with left := S.left - 1 } : ShelfM).WF := ⟨HWF.out.cfg, HWF.out.bays, HWF.out.st, HWF.out.images, HL.out⟩
      exact hw2.setDisk (d := (k : Int)) (by show S.state k ≠ 0; rw [H1.out]; decide) HN.out
theorem step_any (p : Nat) (S : ShelfM) (F : HProp) (d : Int) (f : FuncId) (cap : Array Value) (D' : DiskM) (hcf : ∀ args w, (callFunc f args).run Tryz.prog w = .ok (.enter f args) w) (hn : D'.n = (S.disk d).n) (hd : S.state d ≠ 0)
    (hex : S.state d = 1 → ∀ w' q G, Sat w' (diskAt TD TS q (S.disk d) * (F * G)) → Calls Tryz.prog f (#[.agg #[ptrV q, .int .i64 1]] ++ cap) w' fun e w'' => e = .returned (.tuple #[]) ∧ Hid (Same w' w'' ∧ Sat w'' (diskAt TD TS q D' * (F * G))))
    (w : World) (hS : Sat w (shelfAt SH p S * F)) :
    Calls Tryz.prog 91 #[.pointer (some ⟨p, 0, none⟩), .int .i64 d, .func (.func f) #[] cap] w fun e w' => e = .returned (.int .i64 (S.step d fun _ => D').2) ∧ Hid (Same w w' ∧ Sat w' (shelfAt SH p (S.step d fun _ => D').1 * F)) := by
  obtain ⟨vb, hV⟩ := shelfAt_V.1 hS
  exact (step_anyV p S vb F d f cap D' hcf hn hd hex w hV).mono fun e w' h => ⟨h.1, h.2.out.1, shelfAt_V.2 ⟨vb, h.2.out.2⟩⟩
theorem zeroBay (w : World) : (zeroValue TBay).run Tryz.prog w = .ok (.agg #[.pointer none, .int .i64 0]) w := by kernel_rfl
theorem infoBay (x y : Value) : (Tryz.prog.info? TBay).map (·.size) = some (#[x, y] : Array Value).size := by
  show _ = some 2
  kernel_rfl
set_option maxHeartbeats 1000000 in
theorem arm_bad (p : Nat) (S : ShelfM) (F : HProp) (a : PlaceM) (valid : Bool) (f : FuncId) (cap : Array Value) (w : World) (hS : Sat w (shelfAt SH p S * F)) (h : S.number a < 0 ∨ valid = false) :
    Calls Tryz.prog 71 #[.pointer (some ⟨p, 0, none⟩), .agg (plA a), .bool valid, .func (.func f) #[] cap] w fun e w' => e = .returned (.int .i64 1) ∧ Hid (Same w w' ∧ Sat w' (shelfAt SH p S * F)) := by
  have HS := Lib.hid hS
  have hnum := number_any p S F a (w.alloc (.cells (plA a) TPl)) (hS.allocKeep _)
  generalize S.number a = x at *
  clear hS
  by_cases h0 : x < 0
  · have hb : decide (x < 0) = true := decide_eq_true h0
    clear h h0
    go_enter Tryz.func71, Tryz.ntmps71
    go_wp2_with (go_at_call 90; refine hnum.mono ?_; rintro e w' ⟨rfl, hb1⟩)
    go_ret
    exact ⟨rfl, ((Same.refl w).alloc _).below hb1.out, (HS.out.allocKeep _).below hb1.out⟩
  · have hb : decide (x < 0) = false := decide_eq_false h0
    obtain rfl : valid = false := by rcases h with h | h; exact absurd h h0; exact h
    clear h h0
    go_enter Tryz.func71, Tryz.ntmps71
    go_wp2_with (go_at_call 90; refine hnum.mono ?_; rintro e w' ⟨rfl, hb1⟩)
    go_ret
    exact ⟨rfl, ((Same.refl w).alloc _).below hb1.out, (HS.out.allocKeep _).below hb1.out⟩
def armR (st r : Int) : Int := if st = 1 then r else 15
def ArmOut (p : Nat) (S : ShelfM) (F F' : HProp) (d : Int) (D' : DiskM) (w' : World) : Prop := if S.state d = 1 then Sat w' (shelfAt SH p (S.setDisk d D') * F') else Sat w' (shelfAt SH p S * F)
set_option maxRecDepth 100000 in
set_option maxHeartbeats 1000000 in
theorem arm_do (p : Nat) (S : ShelfM) (F F' : HProp) (a : PlaceM) (f : FuncId) (cap : Array Value) (D' : DiskM) (r : Int) (hcf : ∀ args w, (callFunc f args).run Tryz.prog w = .ok (.enter f args) w) (hnum0 : 0 ≤ S.number a)
    (hn : S.state a.disk = 1 → D'.n = (S.disk a.disk).n)
    (hex : S.state a.disk = 1 → ∀ w' q G, Sat w' (diskAt TD TS q (S.disk a.disk) * (F * G)) → Calls Tryz.prog f (#[.agg #[ptrV q, .int .i64 1], .int .i64 (S.number a)] ++ cap) w' fun e w'' => e = .returned (.int .i64 r) ∧ Hid (Same w' w'' ∧ Sat w'' (diskAt TD TS q D' * (F' * G))))
    (w : World) (hS : Sat w (shelfAt SH p S * F)) :
    Calls Tryz.prog 71 #[.pointer (some ⟨p, 0, none⟩), .agg (plA a), .bool true, .func (.func f) #[] cap] w fun e w' =>
      e = .returned (.int .i64 (armR (S.state a.disk) r)) ∧ Hid (Same w w' ∧ ArmOut p S F F' a.disk D' w') := by
  have hwf := shelfAt_wf hS
  have hnl := ShelfM.number_lt hwf hnum0
  have h := ShelfM.state_in hwf hnl.1
  have hnum := number_any p S F a (w.alloc (.cells (plA a) TPl)) (hS.allocKeep _)
  have hS0 := (hS.alloc (.cells (plA a) TPl)).perm (show _ = shelfAt SH p S * (F * pts w.heap.size (.cells (plA a) TPl (0, 0))) from by ac_rfl)
  have hSm0 := (Same.refl w).alloc (.cells (plA a) TPl)
  have HS := Lib.hid (And.intro hSm0 hS0)
  have hb : decide (S.number a < 0) = false := decide_eq_false (by omega)
  obtain ⟨⟨d, ar, ix⟩, ha⟩ : ∃ b : PlaceM, a = b := ⟨_, rfl⟩
  subst ha
  simp only at *
  obtain ⟨k, rfl⟩ := Int.eq_ofNat_of_zero_le h.1
  have hk := h.2
  have HEX := Lib.hid hex
  have HN := Lib.hid hn
  have HWF := Lib.hid hwf
  obtain ⟨tib, htib⟩ : ∃ ti, Tryz.prog.info? TBay = some ti ∧ ti.size = 2 := by have := infoBay (ptrV 0) (ptrV 0); obtain ⟨ti, h1, h2⟩ := Option.map_eq_some_iff.1 this; exact ⟨ti, h1, h2⟩
  have htb := htib.1
  have htb2 := htib.2
  clear htib
  obtain ⟨nb, hnb⟩ : ∃ nb, S.number ⟨(k : Int), ar, ix⟩ = nb := ⟨_, rfl⟩
  rw [hnb] at hnum hb
  have HNB := Lib.hid hnb
  clear hex hn hwf hS hnl h hS0 hSm0 hnb hnum0
  go_enter Tryz.func71, Tryz.ntmps71
  go_upto_region 4 with (go_at_call 90; refine hnum.mono ?_; rintro e w1 ⟨rfl, hb1⟩; replace HS := Lib.hid (And.intro (HS.out.1.below hb1.out) (HS.out.2.below hb1.out)); clear hb1)
  generalize w.heap.size = B at HS ⊢
  obtain ⟨g, cap', q, vi, G, hs, ⟨hpg, hg⟩, b0, b1, hf, hcl, hbc⟩ := shelf_bay HS.out.2 (d := k) (by omega)
  have c0 : w1.cell? ⟨B, 0, none⟩ = some (.int .i64 (k : Int)) := cells_at (HS.out.2.perm (show _ = pts B (.cells (plA ⟨(k : Int), ar, ix⟩) TPl (0, 0)) * (shelfAt SH p S * F) from by ac_rfl)).block 0
  obtain ⟨⟨q6, q7, q8, q9, q10⟩, hp, hfp, hra⟩ := shelf_cells hs
  have HSS := Lib.hid hs
  have HCL := Lib.hid hcl
  obtain ⟨n, hnn⟩ : ∃ n, S.bays.length = n := ⟨_, rfl⟩
  rw [hnn] at q6 hk
  have HNN := Lib.hid hnn
  have hra2 : w1.rangeAt g (0 + k * 2) [ptrV q, .int .i64 (S.state k)] := by
    intro j u hu
    match j, hu with
    | 0, hu => simp at hu; subst hu; rw [Nat.zero_add]; exact b0
    | 1, hu => simp at hu; subst hu; rw [Nat.zero_add]; exact b1
  clear hcl hbc hs hra hnn hf hfp
  obtain ⟨st, hst⟩ : ∃ st, S.state (k : Int) = st := ⟨_, rfl⟩
  rw [hst] at hra2 b1
  have HST := Lib.hid hst
  clear hst
  have hS0 : w1.drew.cell? ⟨p, 6, none⟩ = some (.slice (some ⟨g, 0, none⟩) n cap') ∧ w1.drew.cell? ⟨B, 0, none⟩ = some (.int .i64 (k : Int)) ∧ w1.drew.rangeAt g (0 + k * 2) [ptrV q, .int .i64 st] := ⟨q6, c0, hra2⟩
  refine reg_begin (fun w' => w'.cell? ⟨p, 6, none⟩ = some (.slice (some ⟨g, 0, none⟩) n cap') ∧ w'.cell? ⟨B, 0, none⟩ = some (.int .i64 (k : Int)) ∧ w'.rangeAt g (0 + k * 2) [ptrV q, .int .i64 st]) (by kernel_rfl) ?_
  (apply reg_take 0 rfl rfl (by decide +kernel) rfl); (rintro w' ⟨h1, h2, h3⟩; go_simp; rfl); exact hS0; simp only [List.setIfInBounds_toArray, List.set_cons_succ, List.set_cons_zero]
  (apply reg_take 1 rfl rfl (by decide +kernel) rfl); (rintro w' ⟨h1, h2, h3⟩; go_simp; rfl); exact hS0; simp only [List.setIfInBounds_toArray, List.set_cons_succ, List.set_cons_zero]
  (apply reg_take 2 rfl rfl (by decide +kernel) rfl); (rintro w' ⟨h1, h2, h3⟩; go_simp; rfl); exact hS0; simp only [List.setIfInBounds_toArray, List.set_cons_succ, List.set_cons_zero]
  (apply reg_take 3 rfl rfl (by decide +kernel) rfl); (rintro w' ⟨h1, h2, h3⟩; go_simp; rfl); exact hS0; simp only [List.setIfInBounds_toArray, List.set_cons_succ, List.set_cons_zero]
  (apply reg_take 4 rfl rfl (by decide +kernel) rfl); (rintro w' ⟨h1, h2, h3⟩; go_simp; rfl); exact hS0; simp only [List.setIfInBounds_toArray, List.set_cons_succ, List.set_cons_zero]
  (apply reg_take 5 rfl rfl (by decide +kernel) rfl); (rintro w' ⟨h1, h2, h3⟩; go_simp; rfl); exact hS0; simp only [List.setIfInBounds_toArray, List.set_cons_succ, List.set_cons_zero]
  refine reg_take 6 (v := .pointer (some ⟨g, 0 + k * 2, none⟩)) rfl rfl (by decide +kernel) rfl (fun _ _ => exec_index_slice rfl rfl rfl Tryz.underlying76 htb htb2 (by omega)) hS0 ?_; simp only [List.setIfInBounds_toArray, List.set_cons_succ, List.set_cons_zero]
  refine reg_take 7 (v := .agg #[ptrV q, .int .i64 st]) rfl rfl (by decide +kernel) rfl (fun w' h => exec_load rfl rfl (run_loadAt_mid w' g (0 + k * 2) TBay [ptrV q, .int .i64 st] _ h.2.2 Tryz.underlying83 rfl (infoBay _ _))) hS0 ?_; simp only [List.setIfInBounds_toArray, List.set_cons_succ, List.set_cons_zero]
  have hBlt : B < w1.heap.size := World.block_lt_of_cell? _ _ c0
  refine reg_run 8 (.pointer (some ⟨w1.heap.size, 0, none⟩)) (w1.drew.alloc (.cells #[.pointer none, .int .i64 0] TBay)) rfl rfl (by decide +kernel) rfl (exec_alloc_zero rfl _ (zeroBay _)) (⟨(World.cell?_alloc_lt _ _ _ hp).trans q6, (World.cell?_alloc_lt _ _ _ hBlt).trans c0, fun j u hu => (World.cell?_alloc_lt _ _ _ hg).trans (hra2 j u hu)⟩) ?_; simp only [List.setIfInBounds_toArray, List.set_cons_succ, List.set_cons_zero]
  refine reg_do_last 9 (w1.drew.alloc (.cells #[ptrV q, .int .i64 st] TBay)) rfl rfl (by decide +kernel) rfl (exec_store_fresh rfl TBay _ _ rfl rfl (infoBay _ _) rfl (by simp [ptrV, Value.oneCell'])) ?_
  have hB := HS.out.2
  by_cases h1 : st = 1
  · subst h1
    have hex2 : ∀ w' q G, Sat w' (diskAt TD TS q (S.disk k) * (F * G)) → Calls Tryz.prog f (#[.agg #[ptrV q, .int .i64 1], .int .i64 nb] ++ cap) w' fun e w'' => e = .returned (.int .i64 r) ∧ Hid (Same w' w'' ∧ Sat w'' (diskAt TD TS q D' * (F' * G))) := by
      rw [← HNB.out]; exact HEX.out HST.out
    have HEX2 := Lib.hid hex2
    clear hex2 hB
    go_wp2_with (refine (HEX2.out _ q (pts p (.cells (shelfC S.cfg (.slice (some ⟨g, 0, none⟩) S.bays.length cap') vi S.off S.fused S.left) TSh (0, 0)) * (pts B (.cells (plA ⟨(k : Int), ar, ix⟩) TPl (0, 0)) * G)) ((HSS.out.drew.allocKeep _).perm (by ac_rfl))).mono ?_; rintro e w2 ⟨rfl, h2⟩)
    go_ret
    unfold ArmOut armR
    rw [if_pos HST.out, if_pos HST.out]
    have hfin := HCL.out w2 (S.setDisk (k : Int) D') D' (F' * pts B (.cells (plA ⟨(k : Int), ar, ix⟩) TPl (0, 0))) (HWF.out.setDisk (by rw [HST.out]; decide) (HN.out HST.out)) rfl rfl rfl (h2.out.2.perm (by simp only [ShelfM.setDisk, ShelfM.setBay]; ac_rfl))
    exact ⟨rfl, (HS.out.1.drew.alloc _).trans h2.out.1, (hfin.perm (show _ = pts B (.cells (plA ⟨(k : Int), ar, ix⟩) TPl (0, 0)) * (shelfAt SH p (S.setDisk (k : Int) D') * F') from by ac_rfl)).right⟩
  · have h1b : (st == 1) = false := by simp [h1]
    clear hB
    go_wp2
    go_ret
    unfold ArmOut armR
    rw [if_neg (by rw [HST.out]; exact h1), if_neg (by rw [HST.out]; exact h1)]
    exact ⟨rfl, HS.out.1.drew.alloc _, ((HS.out.2.drew.allocKeep _).perm (show _ = pts B (.cells (plA ⟨(k : Int), ar, ix⟩) TPl (0, 0)) * (shelfAt SH p S * F) from by ac_rfl)).right⟩
end Go.Proofs.YtmcclbiaoeilkaaGreat
end
section
namespace Go.Proofs.YtmcclbiaoeilkaaGreat
open Go.RowKit Go.Sl Go.ChangeMaps
abbrev TInt : TypeId := 3
abbrev TString : TypeId := 9
def strB (s : List UInt8) : ByteArray := ⟨s.toArray⟩
theorem strB_size (s : List UInt8) : (strB s).size = s.length := by show s.toArray.size = _; simp
theorem cf_write (args : Array Value) (w : World) : (callFunc 92 args).run Tryz.prog w = .ok (.enter 92 args) w := by kernel_rfl
set_option maxHeartbeats 400000 in
theorem flush1_any (q : Nat) (D : DiskM) (G : HProp) (w : World) (hS : Sat w (diskAt TD TS q D * G)) :
    Calls Tryz.prog 94 (#[.agg #[ptrV q, .int .i64 1]] ++ #[]) w fun e w' => e = .returned (.tuple #[]) ∧ Hid (Same w w' ∧ Sat w' (diskAt TD TS q D.flush * G)) := by
  have HS := Lib.hid hS
  clear hS
  show Calls Tryz.prog 94 #[.agg #[ptrV q, .int .i64 1]] w _
  unfold ptrV
  go_enter Tryz.func94, Tryz.ntmps94
  go_wp2_with (go_at_call 95; refine (flush_all q D G _ (HS.out.allocKeep _)).mono ?_; rintro e w' ⟨rfl, h1, h2⟩; have H := Lib.hid (And.intro h1 h2); clear h1 h2)
  first | go_end0 | go_ret
  exact ⟨rfl, ((Same.refl w).alloc _).trans H.out.1, H.out.2⟩
set_option maxHeartbeats 400000 in
theorem write1_any (q nB sB : Nat) (n : Int) (s : List UInt8) (D : DiskM) (F G : HProp) (w : World) (hS : Sat w (diskAt TD TS q D * ((pts nB (.cells #[.int .i64 n] TInt (0, 0)) * (pts sB (.cells #[.string (strB s)] TString (0, 0)) * F)) * G))) :
    Calls Tryz.prog 92 (#[.agg #[ptrV q, .int .i64 1]] ++ #[ptrV nB, ptrV sB]) w fun e w' => e = .returned (.tuple #[]) ∧ Hid (Same w w' ∧ Sat w' (diskAt TD TS q (D.write n s).1 * ((pts nB (.cells #[.int .i64 n] TInt (0, 0)) * (pts sB (.cells #[.string (strB s)] TString (0, 0)) * F)) * G))) := by
  have HS := Lib.hid hS
  have c0 : w.cell? ⟨nB, 0, none⟩ = some (.int .i64 n) := cells_at (hS.perm (show _ = pts nB (.cells #[.int .i64 n] TInt (0, 0)) * (diskAt TD TS q D * (pts sB (.cells #[.string (strB s)] TString (0, 0)) * F * G)) from by ac_rfl)).block 0
  have c1 : w.cell? ⟨sB, 0, none⟩ = some (.string (strB s)) := cells_at (hS.perm (show _ = pts sB (.cells #[.string (strB s)] TString (0, 0)) * (diskAt TD TS q D * (pts nB (.cells #[.int .i64 n] TInt (0, 0)) * F * G)) from by ac_rfl)).block 0
  have l0 := World.block_lt_of_cell? _ _ c0
  have l1 := World.block_lt_of_cell? _ _ c1
  simp only at l0 l1
  clear hS
  show Calls Tryz.prog 92 #[.agg #[ptrV q, .int .i64 1], ptrV nB, ptrV sB] w _
  unfold ptrV
  go_enter Tryz.func92, Tryz.ntmps92
  go_wp2_with (go_at_call 93; refine (write_any q D _ n s _ (HS.out.allocKeep _)).mono ?_; rintro e w' ⟨rfl, h1, h2⟩; have H := Lib.hid (And.intro h1 h2); clear h1 h2)
  first | go_end0 | go_ret
  exact ⟨rfl, ((Same.refl w).alloc _).trans H.out.1, H.out.2⟩
set_option maxHeartbeats 400000 in
theorem sflush_anyV (p : Nat) (S : ShelfM) (vb : Value) (F : HProp) (d : Int) (w : World) (hV : Sat w (shelfV SH p S vb * F)) :
    Calls Tryz.prog 45 #[.pointer (some ⟨p, 0, none⟩), .int .i64 d] w fun e w' => e = .returned (.int .i64 (S.flush d).2) ∧ Hid (Same w w' ∧ Sat w' (shelfV SH p (S.flush d).1 vb * F)) := by
  have hS : Sat w (shelfAt SH p S * F) := shelfAt_V.2 ⟨vb, hV⟩
  have HS := Lib.hid hV
  have hst := state_any p S F d w hS
  have hfl : S.flush d = if S.state d = 0 then (S, 1) else S.step d fun _ => (S.disk d).flush := rfl
  by_cases h0 : S.state d = 0
  · rw [if_pos h0] at hfl
    rw [hfl]; rw [h0] at hst
    clear hfl h0 hS hV
    go_enter Tryz.func45, Tryz.ntmps45
    go_wp2_with (go_at_call 36; refine hst.mono ?_; rintro e w' ⟨rfl, rfl⟩)
    go_ret
    exact ⟨rfl, Same.refl w, HS.out⟩
  · rw [if_neg h0] at hfl
    rw [hfl]
    have hb : (S.state d == 0) = false := by simp [h0]
    have hstep := step_anyV p S vb F d 94 #[] (S.disk d).flush cf_flush rfl h0 (fun _ w' q G h => flush1_any q (S.disk d) (F * G) w' h) w hV
    generalize S.state d = st at *
    clear hfl h0 hS hV
    go_enter Tryz.func45, Tryz.ntmps45
    go_wp2_with (first
      | (go_at_call 36; refine hst.mono ?_; rintro e w' ⟨rfl, rfl⟩)
      | (go_at_call 91; refine hstep.mono ?_; rintro e w2 ⟨rfl, h2⟩))
    go_ret
    exact ⟨rfl, h2⟩
theorem sflush_any (p : Nat) (S : ShelfM) (F : HProp) (d : Int) (w : World) (hS : Sat w (shelfAt SH p S * F)) :
    Calls Tryz.prog 45 #[.pointer (some ⟨p, 0, none⟩), .int .i64 d] w fun e w' => e = .returned (.int .i64 (S.flush d).2) ∧ Hid (Same w w' ∧ Sat w' (shelfAt SH p (S.flush d).1 * F)) := by
  obtain ⟨vb, hV⟩ := shelfAt_V.1 hS
  exact (sflush_anyV p S vb F d w hV).mono fun e w' h => ⟨h.1, h.2.out.1, shelfAt_V.2 ⟨vb, h.2.out.2⟩⟩
set_option maxHeartbeats 400000 in
theorem swrite_bad (p : Nat) (S : ShelfM) (F : HProp) (a : PlaceM) (s : List UInt8) (w : World) (hS : Sat w (shelfAt SH p S * F)) (h : S.number a < 0 ∨ s.length ≠ 64) :
    Calls Tryz.prog 43 #[.pointer (some ⟨p, 0, none⟩), .agg (plA a), .string (strB s)] w fun e w' => e = .returned (.int .i64 1) ∧ Hid (Same w w' ∧ Sat w' (shelfAt SH p S * F)) := by
  have hnum := fun o1 o2 => number_any p S F a ((w.alloc o1).alloc o2) ((hS.allocKeep o1).allocKeep o2)
  replace hnum := hnum (.cells (plA a) TPl) (.cells #[.string (strB s)] TString)
  have hs1 : (strB s).size = s.length := strB_size s
  obtain ⟨b, hb⟩ : ∃ b, strB s = b := ⟨_, rfl⟩
  rw [hb] at hs1 hnum ⊢
  generalize S.number a = x at *
  have HS := Lib.hid hS
  have HB := Lib.hid hb
  clear hS hb
  by_cases h0 : x < 0
  · have hb : decide (x < 0) = true := decide_eq_true h0
    clear h h0
    go_enter Tryz.func43, Tryz.ntmps43
    go_wp2_with (go_at_call 90; refine hnum.mono ?_; rintro e w1 ⟨rfl, hb1⟩; replace HS := Lib.hid (And.intro (((((Same.refl w).alloc _).alloc _).below hb1.out).alloc (.cells #[.int .i64 x] TInt)) ((((HS.out.allocKeep _).allocKeep _).below hb1.out).allocKeep (.cells #[.int .i64 x] TInt))); clear hb1)
    go_ret
    exact ⟨rfl, HS.out⟩
  · have hb : decide (x < 0) = false := decide_eq_false h0
    have hne : s.length ≠ 64 := by rcases h with h | h; exact absurd h h0; exact h
    have hlb : ((b.size : Int) != 64) = true := by rw [bne_iff_ne]; omega
    clear h h0 hs1 hne
    go_enter Tryz.func43, Tryz.ntmps43
    go_upto_region 2 with (go_at_call 90; refine hnum.mono ?_; rintro e w1 ⟨rfl, hb1⟩)
    have hS0 := HS.out
    have hA := ((((hS0.alloc (.cells (plA a) TPl)).alloc (.cells #[.string b] TString)).below hb1.out).alloc (.cells #[.int .i64 x] TInt))
    have hSm := ((((Same.refl w).alloc (.cells (plA a) TPl)).alloc (.cells #[.string b] TString)).below hb1.out).alloc (.cells #[.int .i64 x] TInt)
    rw [World.size_alloc] at hA
    clear hb1 hS0
    generalize w1.alloc (.cells #[.int .i64 x] TInt) = W at hA hSm ⊢
    generalize w1.heap.size = B2 at hA ⊢
    generalize w.heap.size + 1 = B1 at hA ⊢
    generalize w.heap.size = B0 at hA ⊢
    have q2 : W.cell? ⟨B2, 0, none⟩ = some (.int .i64 x) := cells_at hA.block 0
    have q1 : W.cell? ⟨B1, 0, none⟩ = some (.string b) := cells_at hA.right.block 0
    have q0 : W.cell? ⟨B0, 0, none⟩ = some (.int .i64 a.disk) := cells_at hA.right.right.block 0
    have HA := Lib.hid (And.intro hSm hA)
    clear hA hSm
    go_wp2
    go_ret
    exact ⟨rfl, HA.out.1, HA.out.2.right.right.right⟩
set_option maxHeartbeats 400000 in
theorem swrite_do (p : Nat) (S : ShelfM) (F : HProp) (a : PlaceM) (s : List UInt8) (w : World) (hS : Sat w (shelfAt SH p S * F)) (h0 : 0 ≤ S.number a) (hl : s.length = 64) :
    Calls Tryz.prog 43 #[.pointer (some ⟨p, 0, none⟩), .agg (plA a), .string (strB s)] w fun e w' => e = .returned (.int .i64 (S.step a.disk fun D => (D.write (S.number a) s).1).2) ∧ Hid (Same w w' ∧ Sat w' (shelfAt SH p (S.step a.disk fun D => (D.write (S.number a) s).1).1 * F)) := by
  rw [ShelfM.step_const]
  have hnum := fun o1 o2 => number_any p S F a ((w.alloc o1).alloc o2) ((hS.allocKeep o1).allocKeep o2)
  replace hnum := hnum (.cells (plA a) TPl) (.cells #[.string (strB s)] TString)
  have hs1 : (strB s).size = 64 := by rw [strB_size, hl]
  have hst := (ShelfM.number_lt (shelfAt_wf hS) h0).1
  have hstep := fun (nB sB : Nat) (F : HProp) => step_any p S (pts nB (.cells #[.int .i64 (S.number a)] TInt (0, 0)) * (pts sB (.cells #[.string (strB s)] TString (0, 0)) * F)) a.disk 92 #[ptrV nB, ptrV sB] ((S.disk a.disk).write (S.number a) s).1 cf_write (DiskM.write_n _ _ _) hst
    (fun _ w' q G h => write1_any q nB sB _ s _ F G w' h)
  have HSTEP := Lib.hid hstep
  obtain ⟨b, hb⟩ : ∃ b, strB s = b := ⟨_, rfl⟩
  rw [hb] at hs1 hnum ⊢
  obtain ⟨x, hx⟩ : ∃ x, S.number a = x := ⟨_, rfl⟩
  rw [hx] at hnum h0 ⊢
  have HX := Lib.hid hx
  have HB := Lib.hid hb
  have hS0 := hS
  have hbd : decide (x < 0) = false := decide_eq_false (by omega)
  clear hS hb hx hst hstep hl h0
  have HS0 := Lib.hid hS0
  clear hS0
  go_enter Tryz.func43, Tryz.ntmps43
  go_upto_region 2 with (go_at_call 90; refine hnum.mono ?_; rintro e w1 ⟨rfl, hb1⟩)
  have hS0 := HS0.out
  have hA := ((((hS0.alloc (.cells (plA a) TPl)).alloc (.cells #[.string b] TString)).below hb1.out).alloc (.cells #[.int .i64 x] TInt))
  have hSm := ((((Same.refl w).alloc (.cells (plA a) TPl)).alloc (.cells #[.string b] TString)).below hb1.out).alloc (.cells #[.int .i64 x] TInt)
  rw [World.size_alloc] at hA
  clear hb1 hS0
  generalize w1.alloc (.cells #[.int .i64 x] TInt) = W at hA hSm ⊢
  generalize w1.heap.size = B2 at hA ⊢
  generalize w.heap.size + 1 = B1 at hA ⊢
  generalize w.heap.size = B0 at hA ⊢
  have q2 : W.cell? ⟨B2, 0, none⟩ = some (.int .i64 x) := cells_at hA.block 0
  have q1 : W.cell? ⟨B1, 0, none⟩ = some (.string b) := cells_at hA.right.block 0
  have q0 : W.cell? ⟨B0, 0, none⟩ = some (.int .i64 a.disk) := cells_at hA.right.right.block 0
  have HA := Lib.hid (And.intro hSm hA)
  clear hA hSm
  have hlb : ((b.size : Int) != 64) = false := by rw [hs1]; rfl
  have hc := HSTEP.out B2 B1 (pts B0 (.cells (plA a) TPl (0, 0)) * F) W (by rw [HX.out, HB.out]; exact HA.out.2.perm (by ac_rfl))
  unfold ptrV at hc
  go_wp2_with (go_at_call 91; refine hc.mono ?_; rintro e w2 ⟨rfl, h2⟩; clear hc)
  go_ret
  rw [← HX.out]
  exact ⟨rfl, HA.out.1.trans h2.out.1, (h2.out.2.perm (show _ = pts B2 (.cells #[.int .i64 (S.number a)] TInt (0, 0)) * (pts B1 (.cells #[.string (strB s)] TString (0, 0)) * (pts B0 (.cells (plA a) TPl (0, 0)) * (shelfAt SH p _ * F))) from by ac_rfl)).right.right.right⟩
theorem swrite_any (p : Nat) (S : ShelfM) (F : HProp) (a : PlaceM) (s : List UInt8) (w : World) (hS : Sat w (shelfAt SH p S * F)) :
    Calls Tryz.prog 43 #[.pointer (some ⟨p, 0, none⟩), .agg (plA a), .string (strB s)] w fun e w' => e = .returned (.int .i64 (S.write a s).2) ∧ Hid (Same w w' ∧ Sat w' (shelfAt SH p (S.write a s).1 * F)) := by
  by_cases h : S.number a < 0 ∨ s.length ≠ 64
  · have e : S.write a s = (S, 1) := if_pos h
    rw [e]; exact swrite_bad p S F a s w hS h
  · have e : S.write a s = S.step a.disk fun D => (D.write (S.number a) s).1 := if_neg h
    rw [e]; exact swrite_do p S F a s w hS (by omega) (by omega)
end Go.Proofs.YtmcclbiaoeilkaaGreat
end
