import Derived.Test.YtogmkbhbmmgidaaGreatP09
import Derived.Test.YtogmkbhbmmgidaaGreatP10
import Derived.Test.YtogmkbhbmmgidaaGreatP14
import Derived.Test.YtogmkbhbmmgidaaGreatP13
/- Part 15 of a proof; the last part says what is proved. -/
section
namespace Go.Sl
open Go Go.RowKit
def refsT (T : RfT) : List Nat → List DiskM → HProp
  | p :: ps, D :: Ds => refD T p D * refsT T ps Ds
  | _, _ => emp
theorem refsT_app {T : RfT} : ∀ (ps : List Nat) (Ds : List DiskM) (q : Nat) (D : DiskM), ps.length = Ds.length → refsT T (ps ++ [q]) (Ds ++ [D]) = refsT T ps Ds * refD T q D
  | [], [], q, D, _ => by show refD T q D * emp = emp * refD T q D; rw [star_emp, emp_star]
  | p :: ps, E :: Ds, q, D, h => by
    show refD T p E * refsT T (ps ++ [q]) (Ds ++ [D]) = refD T p E * refsT T ps Ds * refD T q D
    rw [refsT_app ps Ds q D (by simpa using h), star_assoc]
  | [], _ :: _, _, _, h => by simp at h
  | _ :: _, [], _, _, h => by simp at h
theorem refsT_split {T : RfT} : ∀ (ps : List Nat) (Ds : List DiskM) (k : Nat), k < ps.length → k < Ds.length → ∃ R, ∀ q D, refsT T (ps.set k q) (Ds.set k D) = refD T q D * R
  | p :: ps, D :: Ds, 0, _, _ => ⟨refsT T ps Ds, fun q D => rfl⟩
  | p :: ps, D :: Ds, k + 1, h1, h2 => by
    obtain ⟨R, hR⟩ := refsT_split ps Ds k (by simpa using h1) (by simpa using h2)
    refine ⟨refD T p D * R, fun q D' => ?_⟩
    show refD T p D * refsT T (ps.set k q) (Ds.set k D') = _
    rw [hR]; ac_rfl
def rsC (c : CfgM) (vb vs vi : Value) (on : Bool) (left : Int) : Array Value :=
  #[.int .i64 c.disks, .int .i64 c.racks, .int .i64 c.rows, .int .i64 c.spare, .int .i64 c.log, .int .i64 c.image, vb, vs, vi, .bool on, .int .i64 left]
structure RsT where
  sh : TypeId
  ptr : TypeId
  int : TypeId
  rf : RfT
def ShelfM.rleft (S : ShelfM) : Int := if S.fused then S.left else -1
def stV (b : BayM) : Value := .int .i64 b.state
def rshAt (T : RsT) (p : Nat) (S : ShelfM) : HProp := ex fun vb : Value => ex fun vs : Value => ex fun vi : Value => ex fun ps : List Nat => ex fun qs : List Nat => lift (S.WF ∧ ps.length = S.bays.length ∧ qs.length = S.images.length) *
  (pts p (.cells (rsC S.cfg vb vs vi (!S.off) S.rleft) T.sh (0, 0)) * (ownAt T.ptr 1 vb S.bays.length (ps.map ptrV) * (ownAt T.int 1 vs S.bays.length (S.bays.map stV) * (ownAt T.ptr 1 vi S.images.length (qs.map ptrV) *
    (refsT T.rf ps (S.bays.map BayM.disk) * refsT T.rf qs S.images)))))
theorem rshAt_iff {T : RsT} {p : Nat} {S : ShelfM} {w : World} {F : HProp} : Sat w (rshAt T p S * F) ↔ ∃ vb vs vi ps qs, (S.WF ∧ ps.length = S.bays.length ∧ qs.length = S.images.length) ∧
    Sat w (pts p (.cells (rsC S.cfg vb vs vi (!S.off) S.rleft) T.sh (0, 0)) * (ownAt T.ptr 1 vb S.bays.length (ps.map ptrV) * (ownAt T.int 1 vs S.bays.length (S.bays.map stV) * (ownAt T.ptr 1 vi S.images.length (qs.map ptrV) *
    (refsT T.rf ps (S.bays.map BayM.disk) * (refsT T.rf qs S.images * F)))))) := by
  simp only [rshAt, Sat.ex, star_assoc, Sat.lift]
theorem rshAt_wf {T : RsT} {p : Nat} {S : ShelfM} {w : World} {F : HProp} (h : Sat w (rshAt T p S * F)) : S.WF := by
  obtain ⟨_, _, _, _, _, h, _⟩ := rshAt_iff.1 h; exact h.1
theorem rs_cells {w : World} {p : Nat} {c : CfgM} {vb vs vi : Value} {on : Bool} {left : Int} {T : TypeId} {F : HProp} (h : Sat w (pts p (.cells (rsC c vb vs vi on left) T (0, 0)) * F)) :
    (w.cell? ⟨p, 6, none⟩ = some vb ∧ w.cell? ⟨p, 7, none⟩ = some vs ∧ w.cell? ⟨p, 8, none⟩ = some vi ∧ w.cell? ⟨p, 9, none⟩ = some (.bool on) ∧ w.cell? ⟨p, 10, none⟩ = some (.int .i64 left)) ∧ p < w.heap.size ∧ w.rangeAt p 0 (cfgL c) := by
  have hb := cells_at h.block
  refine ⟨⟨hb 6, hb 7, hb 8, hb 9, hb 10⟩, h.lt, fun j u hu => ?_⟩
  rw [hb, Nat.zero_add]
  match j, hu with
  | 0, hu => exact hu
  | 1, hu => exact hu
  | 2, hu => exact hu
  | 3, hu => exact hu
  | 4, hu => exact hu
  | 5, hu => exact hu
  | _ + 6, hu => simp [cfgL] at hu
end Go.Sl
namespace Go.Proofs.YtogmkbhbmmgidaaGreat
open Go.RowKit Go.Sl Go.ChangeMaps
abbrev TRsh : TypeId := 66
abbrev TRp : TypeId := 67
abbrev RS : RsT := ⟨TRsh, TRp, 3, RT⟩
theorem sec17_eq {c : CfgM} (h : c.ok = true) : sec17 c = c.sectors := by
  unfold CfgM.ok inB at h
  simp only [Bool.and_eq_true, decide_eq_true_eq] at h
  obtain ⟨⟨⟨⟨⟨⟨⟨a1, a2⟩, b1, b2⟩, c1, c2⟩, d1, d2⟩, e1, e2⟩, f1, f2⟩, _⟩ := h
  unfold sec17 CfgM.sectors wrap64
  omega
set_option maxHeartbeats 400000 in
theorem rnew17_bad (c : CfgM) (F : HProp) (w : World) (hF : Sat w F) (hok : c.ok = false) :
    Calls Tryz.prog 7 #[.agg (cfgA c)] w fun e w' => e = .returned (.tuple #[.pointer none, .int .i64 1]) ∧ Hid (Same w w' ∧ Sat w' F) := by
  have hc := rcheck_any c (w.alloc (.cells (cfgA c) TCfg))
  rw [if_neg (by rw [hok]; decide)] at hc
  have HF := Lib.hid hF
  clear hF hok
  go_enter Tryz.func7, Tryz.ntmps7
  go_wp2_with (go_at_call 22; refine hc.mono ?_; rintro e w1 ⟨rfl, hb⟩; have HB := Lib.hid hb; clear hb hc)
  go_ret2
  exact ⟨rfl, ((Same.refl w).alloc _).below HB.out, (HF.out.allocKeep _).below HB.out⟩
structure RnwSt (w : World) (p B0 : Nat) (c : CfgM) (F : HProp) (i : Value) (wr : World) : Prop where
  st : ∃ (k : Nat) (ps : List Nat) (vb vs : Value), (k : Int) ≤ c.disks ∧ i = .int .i64 k ∧ ps.length = k ∧ Same w wr ∧ Sat wr (pts p (.cells (rsC c vb vs (.slice none 0 0) true (-1)) TRsh (0, 0)) * (ownAt TRp 1 vb k (ps.map ptrV) * (ownAt 3 1 vs k (List.replicate k (.int .i64 1)) *
    (refsT RT ps (List.replicate k (DiskM.new c.sectors)) * (pts B0 (.cells (cfgA c) TCfg (0, 0)) * F)))))
theorem info_Rp : (Tryz.prog.info? TRp).map (fun i => (i.zero, i.size, i.bytes)) = some (some (.pointer none), 1, 8) := by kernel_rfl
theorem info_Ri : (Tryz.prog.info? 3).map (fun i => (i.zero, i.size, i.bytes)) = some (some (.int .i64 0), 1, 8) := by kernel_rfl
theorem one_new17 (w : World) (c : Int) : ∀ j u, [Value.int .i64 c][j]? = some u → (w.alloc (.cells #[.int .i64 c] 3)).cell? ((⟨w.heap.size, 0, none⟩ : Addr).add j) = some u := by
  intro j u hu
  match j, hu with
  | 0, hu => rw [Addr.add_mid, cells_at (heap_alloc_new _ _)]; simpa using hu
set_option maxRecDepth 100000 in
set_option maxHeartbeats 4000000 in
theorem rnew17_ok (c : CfgM) (F : HProp) (w : World) (hF : Sat w F) (hok : c.ok = true) (hsm : c.sectors ≤ 65536) :
    Calls Tryz.prog 7 #[.agg (cfgA c)] w fun e w' => ∃ p, e = .returned (.tuple #[.pointer (some ⟨p, 0, none⟩), .int .i64 0]) ∧ Hid (Same w w' ∧ Sat w' (rshAt RS p (ShelfM.new c) * F)) := by
  have hc := rcheck_any c (w.alloc (.cells (cfgA c) TCfg))
  rw [if_pos hok] at hc
  have hwf := ok_wf hok hsm
  have hsec := fun w' => sec17_any c w'
  rw [sec17_eq hok] at hsec
  have hlim : decide (65536 < c.sectors) = false := decide_eq_false (by omega)
  have HF := Lib.hid (And.intro ((Same.refl w).alloc (.cells (cfgA c) TCfg)) (hF.alloc (.cells (cfgA c) TCfg)))
  have HWF := Lib.hid hwf
  have hd1 := hwf.disks.1
  have hd2 := hwf.disks.2
  obtain ⟨sc, hsc⟩ : ∃ sc, c.sectors = sc := ⟨_, rfl⟩
  rw [hsc] at hsec hlim
  have HSC := Lib.hid hsc
  have HSEC := Lib.hid hsec
  clear hF hok hsm hwf hsc hsec
  go_enter Tryz.func7, Tryz.ntmps7
  go_upto_region 6 with (first
    | (go_at_call 22; refine hc.mono ?_; rintro e w1 ⟨rfl, hb⟩; replace HF := Lib.hid (And.intro (HF.out.1.below hb) (HF.out.2.below hb)); obtain ⟨⟨b0, b1, b2⟩, ⟨b3, b4, b5⟩, bl, br⟩ := cfg_cells HF.out.2; clear hb hc br)
    | (go_at_call 18; refine (HSEC.out _).mono ?_; rintro e w2 ⟨rfl, hb⟩; replace HF := Lib.hid (And.intro (HF.out.1.below hb.out) (HF.out.2.below hb.out)); clear b0 b1 b2 b3 b4 b5 bl; obtain ⟨⟨b0, b1, b2⟩, ⟨b3, b4, b5⟩, bl, br⟩ := cfg_cells HF.out.2; clear hb br))
  go_upto_region 8 with (fail)
  have hA := (HF.out.2.alloc (.cells (rsC c (.slice none 0 0) (.slice none 0 0) (.slice none 0 0) true (-1)) TRsh))
  have hSm := HF.out.1.alloc (.cells (rsC c (.slice none 0 0) (.slice none 0 0) (.slice none 0 0) true (-1)) TRsh)
  clear HF b0 b1 b2 b3 b4 b5 bl
  unfold rsC at hA hSm
  generalize w2.alloc (.cells _ TRsh) = W at hA hSm ⊢
  generalize w2.heap.size = p at hA ⊢
  generalize w.heap.size = B0 at hA ⊢
  have HA := Lib.hid (And.intro hSm hA)
  clear hA hSm
  go_loopw [6] (fun i wr => RnwSt w p B0 c F i wr) (fun i _ => c.disks.toNat - (intOf i).toNat)
  case atStart =>
    have h0 : Sat W (ownAt TRp 1 (.slice none 0 0) 0 [] * (pts p (.cells (rsC c (.slice none 0 0) (.slice none 0 0) (.slice none 0 0) true (-1)) TRsh (0, 0)) * (emp * (pts B0 (.cells (cfgA c) TCfg (0, 0)) * F)))) := ownAt_nil.2 (by rw [emp_star]; exact HA.out.2)
    have h1 : Sat W (ownAt 3 1 (.slice none 0 0) 0 [] * _) := ownAt_nil.2 h0
    exact ⟨0, [], .slice none 0 0, .slice none 0 0, by omega, rfl, rfl, HA.out.1, h1.perm (by show _ = pts p _ * (ownAt TRp 1 _ 0 [] * (ownAt 3 1 _ 0 [] * (emp * _))); unfold rsC; ac_rfl)⟩
  case round =>
    obtain ⟨k, ps, vb, vs, hk, rfl, hps, hsm, hs⟩ := hrel.st
    clear hrel HA
    have H1 := Lib.hid (And.intro hsm hs)
    have HPS := Lib.hid hps
    have hp6 : wr.cell? ⟨p, 6, none⟩ = some vb := cells_at hs.block 6
    obtain ⟨⟨b0, _, _⟩, _, hp, hra⟩ := cfg_cells (hs.perm (show _ = pts B0 (.cells (cfgA c) TCfg (0, 0)) * (pts p (.cells (rsC c vb vs (.slice none 0 0) true (-1)) TRsh (0, 0)) * (ownAt TRp 1 vb k (ps.map ptrV) * (ownAt 3 1 vs k (List.replicate k (.int .i64 1)) *
      (refsT RT ps (List.replicate k (DiskM.new c.sectors)) * F)))) from by ac_rfl))
    clear hsm hs hps
    by_cases hlt : (k : Int) < c.disks
    · have hltd : decide ((k : Int) < c.disks) = true := decide_eq_true hlt
      go_upto_region 10 with (fail)
      have hS0 : wr.drew.cell? ⟨p, 6, none⟩ = some vb ∧ wr.drew.rangeAt B0 0 (cfgL c) := ⟨hp6, hra⟩
      refine reg_begin (fun w' => w'.cell? ⟨p, 6, none⟩ = some vb ∧ w'.rangeAt B0 0 (cfgL c)) (by kernel_rfl) ?_
      (apply reg_take 0 rfl rfl (by decide +kernel) rfl); (rintro w' ⟨h1, h2⟩; go_simp; rfl); exact hS0; simp only [List.setIfInBounds_toArray, List.set_cons_succ, List.set_cons_zero]
      (apply reg_take 1 rfl rfl (by decide +kernel) rfl); (rintro w' ⟨h1, h2⟩; go_simp; rfl); exact hS0; simp only [List.setIfInBounds_toArray, List.set_cons_succ, List.set_cons_zero]
      (apply reg_take 2 rfl rfl (by decide +kernel) rfl); (rintro w' ⟨h1, h2⟩; go_simp; rfl); exact hS0; simp only [List.setIfInBounds_toArray, List.set_cons_succ, List.set_cons_zero]
      (apply reg_take 3 rfl rfl (by decide +kernel) rfl); (rintro w' ⟨h1, h2⟩; go_simp; rfl); exact hS0; simp only [List.setIfInBounds_toArray, List.set_cons_succ, List.set_cons_zero]
      (apply reg_take 4 rfl rfl (by decide +kernel) rfl); (rintro w' ⟨h1, h2⟩; go_simp; rfl); exact hS0; simp only [List.setIfInBounds_toArray, List.set_cons_succ, List.set_cons_zero]
      refine reg_take 5 (v := .agg (cfgA c)) rfl rfl (by decide +kernel) rfl (fun w' h => exec_load rfl rfl (load_cfg h.2)) hS0 ?_; simp only [List.setIfInBounds_toArray, List.set_cons_succ, List.set_cons_zero]
      refine reg_call 6 rfl rfl (by decide +kernel) rfl (f := 18) (args := #[.agg (cfgA c)]) (R := fun v w' => v = .int .i64 sc ∧ Hid (Below wr.heap.size wr w')) (by kernel_rfl) ((HSEC.out wr.drew).mono fun e w' h => ⟨_, h.1, rfl, ⟨h.2.out.os, h.2.out.tape, h.2.out.output, h.2.out.size, h.2.out.block⟩⟩) ?_
      rintro _ w1 ⟨rfl, hb1⟩
      replace H1 := Lib.hid (And.intro (H1.out.1.below hb1.out) (H1.out.2.below hb1.out))
      have hS1 : w1.cell? ⟨p, 6, none⟩ = some vb ∧ w1.rangeAt B0 0 (cfgL c) := ⟨(hb1.out.cell (p := ⟨p, 6, none⟩) (World.block_lt_of_cell? _ _ hp6)).trans hp6, fun j u hu => (hb1.out.cell (p := ⟨B0, 0 + j, none⟩) hp).trans (hra j u hu)⟩
      refine ⟨hS1, ?_⟩
      simp only [List.setIfInBounds_toArray, List.set_cons_succ, List.set_cons_zero]
      refine reg_call 7 rfl rfl (by decide +kernel) rfl (f := 23) (args := #[.int .i64 sc]) (R := fun v w' => ∃ q, v = .pointer (some ⟨q, 0, none⟩) ∧ Hid (Same w w' ∧ Sat w' (refD RT q (DiskM.new c.sectors) * (pts p (.cells (rsC c vb vs (.slice none 0 0) true (-1)) TRsh (0, 0)) * (ownAt TRp 1 vb k (ps.map ptrV) * (ownAt 3 1 vs k (List.replicate k (.int .i64 1)) *
        (refsT RT ps (List.replicate k (DiskM.new c.sectors)) * (pts B0 (.cells (cfgA c) TCfg (0, 0)) * F)))))))) (by kernel_rfl)
        ((rnew16_any sc _ w1 H1.out.2).mono fun e w' h => by
          obtain ⟨q', rfl, hX⟩ := h
          obtain ⟨h1, h2⟩ := hX.out
          rw [show DiskM.new sc = DiskM.new c.sectors by rw [HSC.out]] at h2
          exact ⟨_, rfl, q', rfl, H1.out.1.trans h1, h2⟩) ?_
      rintro _ w3 ⟨q, rfl, h3⟩
      have hS3 : w3.cell? ⟨p, 6, none⟩ = some vb ∧ w3.rangeAt B0 0 (cfgL c) := ⟨cells_at h3.out.2.right.block 6, (cfg_cells (h3.out.2.perm (show _ = pts B0 (.cells (cfgA c) TCfg (0, 0)) * (refD RT q (DiskM.new c.sectors) * (pts p (.cells (rsC c vb vs (.slice none 0 0) true (-1)) TRsh (0, 0)) * (ownAt TRp 1 vb k (ps.map ptrV) * (ownAt 3 1 vs k (List.replicate k (.int .i64 1)) *
        (refsT RT ps (List.replicate k (DiskM.new c.sectors)) * F))))) from by ac_rfl))).2.2.2⟩
      refine ⟨hS3, ?_⟩
      simp only [List.setIfInBounds_toArray, List.set_cons_succ, List.set_cons_zero]
      have hA4 := h3.out.2.alloc (.cells #[.pointer (some ⟨q, 0, none⟩)] TRp)
      have hS4 : (w3.alloc (.cells #[.pointer (some ⟨q, 0, none⟩)] TRp)).cell? ⟨p, 6, none⟩ = some vb ∧ (w3.alloc (.cells #[.pointer (some ⟨q, 0, none⟩)] TRp)).rangeAt B0 0 (cfgL c) := ⟨cells_at hA4.right.right.block 6, fun j u hu => (World.cell?_alloc_lt _ _ _ (World.block_lt_of_cell? _ _ (hS3.2 j u hu))).trans (hS3.2 j u hu)⟩
      refine reg_run 8 (.slice (some ⟨w3.heap.size, 0, none⟩) 1 1) (w3.alloc (.cells #[.pointer (some ⟨q, 0, none⟩)] TRp)) rfl rfl (by decide +kernel) rfl (by go_simp) (hS4) ?_; simp only [List.setIfInBounds_toArray, List.set_cons_succ, List.set_cons_zero]
      have hA5 := hA4.perm (show _ = ownAt TRp 1 vb k (ps.map ptrV) * (pts w3.heap.size (.cells #[.pointer (some ⟨q, 0, none⟩)] TRp (0, 0)) * (refD RT q (DiskM.new c.sectors) * (pts p (.cells (rsC c vb vs (.slice none 0 0) true (-1)) TRsh (0, 0)) * (ownAt 3 1 vs k (List.replicate k (.int .i64 1)) *
        (refsT RT ps (List.replicate k (DiskM.new c.sectors)) * (pts B0 (.cells (cfgA c) TCfg (0, 0)) * F)))))) from by ac_rfl)
      obtain ⟨ti, hti, hz0, hts, hz2⟩ := info_parts info_Rp
      obtain ⟨v', w5, hr, hsm5, hs5⟩ := run_append_ownAt (P := Tryz.prog) 64 64 TRp ti _ Tryz.underlying64 hti hz0 (by rw [hts]; rfl) vb k (ps.map ptrV) (by rw [hts]; exact hA5) ⟨w3.heap.size, 0, none⟩ 1 1 [.pointer (some ⟨q, 0, none⟩)] (by rw [hts]; rfl)
        (by intro j u hu; rw [Addr.add_mid, cells_at hA5.right.block, Nat.zero_add]; simpa using hu) (by simp [Value.oneCell']) (by unfold maxLen; omega) (by rw [hz2]; omega)
      rw [hts] at hs5
      have hs6 := hs5.perm (show _ = pts p (.cells (rsC c vb vs (.slice none 0 0) true (-1)) TRsh (0, 0)) * (ownAt TRp 1 v' (k + 1) (ps.map ptrV ++ [.pointer (some ⟨q, 0, none⟩)]) *
        (pts w3.heap.size (.cells #[.pointer (some ⟨q, 0, none⟩)] TRp (0, 0)) * (refD RT q (DiskM.new c.sectors) * (ownAt 3 1 vs k (List.replicate k (.int .i64 1)) * (refsT RT ps (List.replicate k (DiskM.new c.sectors)) * (pts B0 (.cells (cfgA c) TCfg (0, 0)) * F)))))) from by ac_rfl)
      have hS6 : w5.cell? ⟨p, 6, none⟩ = some vb ∧ w5.rangeAt B0 0 (cfgL c) := ⟨cells_at hs6.block 6, (cfg_cells (hs6.perm (show _ = pts B0 (.cells (cfgA c) TCfg (0, 0)) * (pts p (.cells (rsC c vb vs (.slice none 0 0) true (-1)) TRsh (0, 0)) * (ownAt TRp 1 v' (k + 1) (ps.map ptrV ++ [.pointer (some ⟨q, 0, none⟩)]) *
        (pts w3.heap.size (.cells #[.pointer (some ⟨q, 0, none⟩)] TRp (0, 0)) * (refD RT q (DiskM.new c.sectors) * (ownAt 3 1 vs k (List.replicate k (.int .i64 1)) * (refsT RT ps (List.replicate k (DiskM.new c.sectors)) * F)))))) from by ac_rfl))).2.2.2⟩
      refine reg_run 9 (v') (w5) rfl rfl (by decide +kernel) rfl (exec_append rfl rfl rfl hr) (hS6) ?_; simp only [List.setIfInBounds_toArray, List.set_cons_succ, List.set_cons_zero]
      (apply reg_take 10 rfl rfl (by decide +kernel) rfl); (rintro w' ⟨h1, h2⟩; go_simp; rfl); exact hS6; simp only [List.setIfInBounds_toArray, List.set_cons_succ, List.set_cons_zero]
      (apply reg_take 11 rfl rfl (by decide +kernel) rfl); (rintro w' ⟨h1, h2⟩; go_simp; rfl); exact hS6; simp only [List.setIfInBounds_toArray, List.set_cons_succ, List.set_cons_zero]
      obtain ⟨ip, hip, hip2⟩ := Option.map_eq_some_iff.1 (show (Tryz.prog.info? 64).map (·.size) = some 1 by kernel_rfl)
      obtain ⟨ao', cp', rfl⟩ := ownAt_slice hs5
      refine reg_do_last 12 (w5.setCell ⟨p, 6, none⟩ (.slice ao' (k + 1) cp')) rfl rfl (by decide +kernel) rfl (exec_store_cell rfl rfl rfl hip hip2 rfl hS6.1 (thawed_at hs6.block 6)) ?_
      have H7 := Lib.hid (show Same w (w5.setCell ⟨p, 6, none⟩ (.slice ao' (k + 1) cp')) ∧ Sat (w5.setCell ⟨p, 6, none⟩ (.slice ao' (k + 1) cp')) (ownAt 3 1 vs k (List.replicate k (.int .i64 1)) * (pts p (.cells (rsC c (.slice ao' (k + 1) cp') vs (.slice none 0 0) true (-1)) TRsh (0, 0)) * (ownAt TRp 1 (.slice ao' (k + 1) cp') (k + 1) ((ps ++ [q]).map ptrV) *
          (refsT RT (ps ++ [q]) (List.replicate (k + 1) (DiskM.new c.sectors)) * (pts B0 (.cells (cfgA c) TCfg (0, 0)) * F))))) from by
        refine ⟨((h3.out.1.alloc _).trans hsm5).setCell _ _, ?_⟩
        rw [List.replicate_succ', refsT_app _ _ _ _ (by rw [HPS.out]; simp), List.map_append]
        have h9 := (hs6.setCell (i := 6) (.slice ao' (k + 1) cp'))
        exact (h9.perm (show _ = pts w3.heap.size (.cells #[.pointer (some ⟨q, 0, none⟩)] TRp (0, 0)) * (ownAt 3 1 vs k (List.replicate k (.int .i64 1)) * (pts p (.cells (rsC c (.slice ao' (k + 1) cp') vs (.slice none 0 0) true (-1)) TRsh (0, 0)) * (ownAt TRp 1 (.slice ao' (k + 1) cp') (k + 1) (ps.map ptrV ++ [.pointer (some ⟨q, 0, none⟩)]) *
          (refsT RT ps (List.replicate k (DiskM.new c.sectors)) * refD RT q (DiskM.new c.sectors) * (pts B0 (.cells (cfgA c) TCfg (0, 0)) * F))))) from by unfold rsC; simp only [List.setIfInBounds_toArray, List.set_cons_succ, List.set_cons_zero]; ac_rfl)).right)
      clear hS0 hS1 hS3 hS4 hS6 hA4 hA5 hs5 hs6 hr hsm5 h3 H1 hti hz0 hts hz2 hip hip2 hra hb1 b0 hp hp6
      generalize w5.setCell ⟨p, 6, none⟩ (.slice ao' (k + 1) cp') = W7 at H7 ⊢
      have h7 : W7.cell? ⟨p, 7, none⟩ = some vs := cells_at H7.out.2.right.block 7
      obtain ⟨tj, htj, hy0, hys, hy2⟩ := info_parts info_Ri
      go_wp2_with (at_builtin; refine wpList_append_ownAt rfl _ _ 43 3 rfl tj _ Tryz.underlying43 htj hy0 hys hy2 rfl (H7.out.2.allocKeep _) [.int .i64 1] rfl rfl rfl (one_new17 _ 1) (by simp [Value.oneCell']) (by unfold maxLen; omega) (by omega) ?_; intro v8 w8 h8; have c8 : w8.cell? ⟨p, 7, none⟩ = some vs := cells_at h8.out.2.right.block 7; have f8 : w8.frozen? ⟨p, 7, none⟩ = false := thawed_at h8.out.2.right.block 7; obtain ⟨ao8, cp8, rfl⟩ := ownAt_slice h8.out.2)
      go_roundw
      case rel =>
        refine ⟨⟨k + 1, ps ++ [q], .slice ao' (k + 1) cp', .slice ao8 (k + 1) cp8, by omega, rfl, by rw [List.length_append, HPS.out]; rfl, ((H7.out.1.alloc _).trans h8.out.1).setCell _ _, ?_⟩⟩
        have h9 := (h8.out.2.perm (show _ = pts p (.cells (rsC c (.slice ao' (k + 1) cp') vs (.slice none 0 0) true (-1)) TRsh (0, 0)) * (ownAt 3 1 (.slice ao8 (k + 1) cp8) (k + 1) (List.replicate k (.int .i64 1) ++ [.int .i64 1]) * (ownAt TRp 1 (.slice ao' (k + 1) cp') (k + 1) ((ps ++ [q]).map ptrV) *
          (refsT RT (ps ++ [q]) (List.replicate (k + 1) (DiskM.new c.sectors)) * (pts B0 (.cells (cfgA c) TCfg (0, 0)) * F)))) from by ac_rfl)).setCell (i := 7) (.slice ao8 (k + 1) cp8)
        rw [List.replicate_succ' (a := Value.int .i64 1)]
        exact h9.perm (by unfold rsC; simp only [List.setIfInBounds_toArray, List.set_cons_succ, List.set_cons_zero]; ac_rfl)
      case measure => simp only [intOf]; omega
    · have hltd : decide ((k : Int) < c.disks) = false := decide_eq_false hlt
      have hke : k = c.disks.toNat := by omega
      clear hra
      go_wp2
      go_ret2
      refine ⟨p, rfl, H1.out.1, rshAt_iff.2 ⟨vb, vs, .slice none 0 0, ps, [], ⟨new_wf HWF.out, by rw [HPS.out, hke]; simp [ShelfM.new], rfl⟩, ?_⟩⟩
      have h9 : Sat wr (ownAt TRp 1 (.slice none 0 0) 0 [] * _) := ownAt_nil.2 H1.out.2
      rw [hke] at h9
      have e1 : (ShelfM.new c).bays = List.replicate c.disks.toNat ⟨DiskM.new c.sectors, 1⟩ := rfl
      have e2 : (ShelfM.new c).bays.map BayM.disk = List.replicate c.disks.toNat (DiskM.new c.sectors) := by rw [e1]; simp
      have e3 : (ShelfM.new c).bays.map stV = List.replicate c.disks.toNat (.int .i64 1) := by rw [e1]; simp [stV]
      rw [e2, e3, e1, List.length_replicate]
      have h10 := h9.perm (show _ = pts B0 (.cells (cfgA c) TCfg (0, 0)) * (pts p (.cells (rsC c vb vs (.slice none 0 0) true (-1)) TRsh (0, 0)) * (ownAt TRp 1 vb c.disks.toNat (ps.map ptrV) * (ownAt 3 1 vs c.disks.toNat (List.replicate c.disks.toNat (.int .i64 1)) * (ownAt TRp 1 (.slice none 0 0) 0 [] * (refsT RT ps (List.replicate c.disks.toNat (DiskM.new c.sectors)) * F))))) from by ac_rfl)
      have h11 := h10.right
      exact h11.perm (by show _ = pts p _ * (_ * (_ * (ownAt TRp 1 _ 0 [] * (_ * (emp * F))))); rw [emp_star]; rfl)
end Go.Proofs.YtogmkbhbmmgidaaGreat
end
section
namespace Go.Proofs.YtogmkbhbmmgidaaGreat
open Go.RowKit Go.Sl Go.ChangeMaps
def ReadOut (p : Nat) (S : ShelfM) (F : HProp) (r : List UInt8 × Int) (w : World) (e : Ending) (w' : World) : Prop := e = .returned (.tuple #[.string (strB r.1), .int .i64 r.2]) ∧ Same w w' ∧ Sat w' (shelfAt SH p S * F)
set_option maxRecDepth 100000 in
set_option maxHeartbeats 1000000 in
theorem sread_any (p : Nat) (S : ShelfM) (F : HProp) (a : PlaceM) (w : World) (hS : Sat w (shelfAt SH p S * F)) :
    Calls Tryz.prog 27 #[.pointer (some ⟨p, 0, none⟩), .agg (plA a)] w (ReadOut p S F (S.read a) w) := by
  have hwf := shelfAt_wf hS
  have hnum := number_any p S F a (w.alloc (.cells (plA a) TPl)) (hS.allocKeep _)
  have hA := (hS.alloc (.cells (plA a) TPl)).perm (show _ = shelfAt SH p S * (pts w.heap.size (.cells (plA a) TPl (0, 0)) * F) from by ac_rfl)
  have hrd : S.read a = if S.number a < 0 then ([], 1) else if S.access a.disk ≠ 0 then ([], S.access a.disk) else (S.disk a.disk).read (S.number a) := rfl
  obtain ⟨x, hx⟩ : ∃ x, S.number a = x := ⟨_, rfl⟩
  rw [hx] at hnum hrd
  have HX := Lib.hid hx
  have H1 := Lib.hid (And.intro ((Same.refl w).alloc (.cells (plA a) TPl)) hA)
  clear hA hS
  by_cases h0 : x < 0
  · rw [if_pos h0] at hrd
    rw [hrd]
    have hb : decide (x < 0) = true := decide_eq_true h0
    clear hrd h0 hwf hx
    go_enter Tryz.func27, Tryz.ntmps27
    go_wp2_with (go_at_call 57; refine hnum.mono ?_; rintro e w1 ⟨rfl, hb1⟩; replace H1 := Lib.hid (And.intro (H1.out.1.below hb1.out) (H1.out.2.below hb1.out)); clear hb1)
    go_ret2
    exact ⟨rfl, H1.out.1, (H1.out.2.perm (show _ = pts w.heap.size (.cells (plA a) TPl (0, 0)) * (shelfAt SH p S * F) from by ac_rfl)).right⟩
  rw [if_neg h0] at hrd
  have hb : decide (x < 0) = false := decide_eq_false h0
  have hn0 : 0 ≤ S.number a := by omega
  have hst := (ShelfM.number_lt hwf hn0).1
  have hin := ShelfM.state_in hwf hst
  have HST := Lib.hid hst
  obtain ⟨⟨d, ar, ix⟩, ha⟩ : ∃ b : PlaceM, a = b := ⟨_, rfl⟩
  subst ha
  simp only at *
  obtain ⟨k, rfl⟩ := Int.eq_ofNat_of_zero_le hin.1
  have hk := hin.2
  clear hn0 hin hwf hx h0 hst
  go_enter Tryz.func27, Tryz.ntmps27
  go_upto_region 4 with (go_at_call 57; refine hnum.mono ?_; rintro e w1 ⟨rfl, hb1⟩; replace H1 := Lib.hid (And.intro (H1.out.1.below hb1.out) (H1.out.2.below hb1.out)); clear hb1)
  generalize w.heap.size = B at H1 ⊢
  have c0 : w1.cell? ⟨B, 0, none⟩ = some (.int .i64 (k : Int)) := cells_at (H1.out.2.perm (show _ = pts B (.cells (plA ⟨(k : Int), ar, ix⟩) TPl (0, 0)) * (shelfAt SH p S * F) from by ac_rfl)).block 0
  have hacc := access_any p S _ k w1 H1.out.2 HST.out
  obtain ⟨ac, hac⟩ : ∃ ac, S.access (k : Int) = ac := ⟨_, rfl⟩
  rw [hac] at hacc hrd
  by_cases ha : ac = 0
  case neg =>
    rw [if_pos ha] at hrd
    have HRD := Lib.hid hrd
    have hab : (ac != 0) = true := by simp [ha]
    clear hrd ha hac
    go_wp2_with (go_at_call 69; refine hacc.mono ?_; rintro e w' ⟨rfl, rfl⟩; clear hacc)
    go_ret2
    rw [HRD.out]
    exact ⟨rfl, H1.out.1, (H1.out.2.perm (show _ = pts B (.cells (plA ⟨(k : Int), ar, ix⟩) TPl (0, 0)) * (shelfAt SH p S * F) from by ac_rfl)).right⟩
  rw [if_neg (by simp [ha])] at hrd
  subst ha
  have HRD := Lib.hid hrd
  clear hrd hac
  go_upto_region 7 with (go_at_call 69; refine hacc.mono ?_; rintro e w' ⟨rfl, rfl⟩; clear hacc)
  obtain ⟨g, cap', q, vi, G, hs, ⟨hpg, hg⟩, b0, b1, hf, hcl, hbc⟩ := shelf_bay H1.out.2 (d := k) (by omega)
  obtain ⟨⟨q6, q7, q8, q9, q10⟩, hp, hfp, hra⟩ := shelf_cells hs
  obtain ⟨n, hnn⟩ : ∃ n, S.bays.length = n := ⟨_, rfl⟩
  rw [hnn] at q6 hk
  have hrdd := read_any q (S.disk k) (pts p (.cells (shelfC S.cfg (.slice (some ⟨g, 0, none⟩) S.bays.length cap') vi S.off S.fused S.left) TSh (0, 0)) * ((pts B (.cells (plA ⟨(k : Int), ar, ix⟩) TPl (0, 0)) * F) * G)) x w1.drew (hs.drew.perm (by ac_rfl))
  obtain ⟨⟨t, ek⟩, hr⟩ : ∃ r, (S.disk k).read x = r := ⟨_, rfl⟩
  rw [hr] at hrdd
  have hrd2 : S.read ⟨(k : Int), ar, ix⟩ = (t, ek) := by rw [HRD.out]; exact hr
  have HRD2 := Lib.hid hrd2
  simp only at hrdd
  obtain ⟨tib, htib⟩ : ∃ ti, Tryz.prog.info? TBay = some ti ∧ ti.size = 2 := by have := infoBay (ptrV 0) (ptrV 0); obtain ⟨ti, h1, h2⟩ := Option.map_eq_some_iff.1 this; exact ⟨ti, h1, h2⟩
  have htb := htib.1
  have htb2 := htib.2
  unfold ptrV at b0
  clear hs hf hcl hbc hfp hra hnn htib hr hrd2
  have hS0 : w1.drew.cell? ⟨p, 6, none⟩ = some (.slice (some ⟨g, 0, none⟩) n cap') ∧ w1.drew.cell? ⟨B, 0, none⟩ = some (.int .i64 (k : Int)) ∧ w1.drew.cell? ⟨g, 0 + k * 2, none⟩ = some (.pointer (some ⟨q, 0, none⟩)) := ⟨q6, c0, by rw [Nat.zero_add]; exact b0⟩
  refine reg_begin (fun w' => w'.cell? ⟨p, 6, none⟩ = some (.slice (some ⟨g, 0, none⟩) n cap') ∧ w'.cell? ⟨B, 0, none⟩ = some (.int .i64 (k : Int)) ∧ w'.cell? ⟨g, 0 + k * 2, none⟩ = some (.pointer (some ⟨q, 0, none⟩))) (by kernel_rfl) ?_
  (apply reg_take 0 rfl rfl (by decide +kernel) rfl); (rintro w' ⟨h1, h2, h3⟩; go_simp; rfl); exact hS0; simp only [List.setIfInBounds_toArray, List.set_cons_succ, List.set_cons_zero]
  (apply reg_take 1 rfl rfl (by decide +kernel) rfl); (rintro w' ⟨h1, h2, h3⟩; go_simp; rfl); exact hS0; simp only [List.setIfInBounds_toArray, List.set_cons_succ, List.set_cons_zero]
  (apply reg_take 2 rfl rfl (by decide +kernel) rfl); (rintro w' ⟨h1, h2, h3⟩; go_simp; rfl); exact hS0; simp only [List.setIfInBounds_toArray, List.set_cons_succ, List.set_cons_zero]
  (apply reg_take 3 rfl rfl (by decide +kernel) rfl); (rintro w' ⟨h1, h2, h3⟩; go_simp; rfl); exact hS0; simp only [List.setIfInBounds_toArray, List.set_cons_succ, List.set_cons_zero]
  (apply reg_take 4 rfl rfl (by decide +kernel) rfl); (rintro w' ⟨h1, h2, h3⟩; go_simp; rfl); exact hS0; simp only [List.setIfInBounds_toArray, List.set_cons_succ, List.set_cons_zero]
  (apply reg_take 5 rfl rfl (by decide +kernel) rfl); (rintro w' ⟨h1, h2, h3⟩; go_simp; rfl); exact hS0; simp only [List.setIfInBounds_toArray, List.set_cons_succ, List.set_cons_zero]
  refine reg_take 6 (v := .pointer (some ⟨g, 0 + k * 2, none⟩)) rfl rfl (by decide +kernel) rfl (fun _ _ => exec_index_slice rfl rfl rfl Tryz.underlying56 htb htb2 (by omega)) hS0 ?_; simp only [List.setIfInBounds_toArray, List.set_cons_succ, List.set_cons_zero]
  (apply reg_take 7 rfl rfl (by decide +kernel) rfl); (rintro w' ⟨h1, h2, h3⟩; rw [Nat.zero_add] at h3; go_simp; rfl); exact hS0; simp only [List.setIfInBounds_toArray, List.set_cons_succ, List.set_cons_zero]
  (apply reg_take 8 rfl rfl (by decide +kernel) rfl); (rintro w' ⟨h1, h2, h3⟩; rw [Nat.zero_add] at h3; go_simp; rfl); exact hS0; simp only [List.setIfInBounds_toArray, List.set_cons_succ, List.set_cons_zero]
  (apply reg_take 9 rfl rfl (by decide +kernel) rfl); (rintro w' ⟨h1, h2, h3⟩; rw [Nat.zero_add] at h3; go_simp; rfl); exact hS0; simp only [List.setIfInBounds_toArray, List.set_cons_succ, List.set_cons_zero]
  refine reg_call 10 rfl rfl (by decide +kernel) rfl (f := 70) (args := #[.pointer (some ⟨q, 0, none⟩), .int .i64 x]) (R := fun v w' => v = .tuple #[.string (strB t), .int .i64 ek] ∧ Hid (Below w1.heap.size w1 w')) (by kernel_rfl) (hrdd.mono fun e w' h => ⟨_, h.1, rfl, ⟨h.2.os, h.2.tape, h.2.output, h.2.size, h.2.block⟩⟩) ?_
  rintro _ w2 ⟨rfl, hb2⟩
  have hBlt : B < w1.heap.size := World.block_lt_of_cell? _ _ c0
  have hS1 : w2.cell? ⟨p, 6, none⟩ = some (.slice (some ⟨g, 0, none⟩) n cap') ∧ w2.cell? ⟨B, 0, none⟩ = some (.int .i64 (k : Int)) ∧ w2.cell? ⟨g, 0 + k * 2, none⟩ = some (.pointer (some ⟨q, 0, none⟩)) := ⟨(hb2.out.cell (p := ⟨p, 6, none⟩) hp).trans q6, (hb2.out.cell (p := ⟨B, 0, none⟩) hBlt).trans c0, (hb2.out.cell (p := ⟨g, 0 + k * 2, none⟩) hg).trans (by rw [Nat.zero_add]; exact b0)⟩
  refine ⟨hS1, ?_⟩
  simp only [List.setIfInBounds_toArray, List.set_cons_succ, List.set_cons_zero]
  (apply reg_take 11 rfl rfl (by decide +kernel) rfl); (rintro w' ⟨h1, h2, h3⟩; go_simp; rfl); exact hS1; simp only [List.setIfInBounds_toArray, List.set_cons_succ, List.set_cons_zero]
  (apply reg_take 12 rfl rfl (by decide +kernel) rfl); (rintro w' ⟨h1, h2, h3⟩; go_simp; rfl); exact hS1; simp only [List.setIfInBounds_toArray, List.set_cons_succ, List.set_cons_zero]
  (apply reg_take 13 rfl rfl (by decide +kernel) rfl); (rintro w' ⟨h1, h2, h3⟩; go_simp; rfl); exact hS1; simp only [List.setIfInBounds_toArray, List.set_cons_succ, List.set_cons_zero]
  (apply reg_take 14 rfl rfl (by decide +kernel) rfl); (rintro w' ⟨h1, h2, h3⟩; go_simp; rfl); exact hS1; simp only [List.setIfInBounds_toArray, List.set_cons_succ, List.set_cons_zero]
  refine reg_done (by decide +kernel) ?_
  go_wp2
  go_ret2
  rw [HRD2.out]
  exact ⟨rfl, H1.out.1.below hb2.out, ((H1.out.2.below hb2.out).perm (show _ = pts B (.cells (plA ⟨(k : Int), ar, ix⟩) TPl (0, 0)) * (shelfAt SH p S * F) from by ac_rfl)).right⟩
end Go.Proofs.YtogmkbhbmmgidaaGreat
end
section
namespace Go.Proofs.YtogmkbhbmmgidaaGreat
open Go.RowKit Go.Sl Go.ChangeMaps
set_option maxHeartbeats 400000 in
theorem up_any (p : Nat) (S : ShelfM) (F : HProp) (w : World) (hS : Sat w (shelfAt SH p S * F)) :
    Calls Tryz.prog 13 #[.pointer (some ⟨p, 0, none⟩)] w fun e w' => e = .returned (.bool (!S.off)) ∧ w = w' := by
  obtain ⟨vb, vi, ps, qs, ⟨_, h1, h2⟩, hs⟩ := shelfAt_iff.1 hS
  obtain ⟨⟨q6, q7, q8, q9, q10⟩, hp, hfp, hra⟩ := shelf_cells hs
  clear hs hS hfp hra h1 h2
  go_enter Tryz.func13, Tryz.ntmps13
  go_wp2
  go_ret
  exact ⟨rfl, rfl⟩
set_option maxHeartbeats 400000 in
theorem want_any (p : Nat) (S : ShelfM) (F : HProp) (d : Int) (inn : Bool) (er : Int) (w : World) (hS : Sat w (shelfAt SH p S * F)) :
    Calls Tryz.prog 73 #[.pointer (some ⟨p, 0, none⟩), .int .i64 d, .bool inn, .int .i64 er] w fun e w' => e = .returned (.int .i64 (S.want d inn er)) ∧ w = w' := by
  have hacc : S.want d inn er = if S.state d = 0 then 1 else if decide (S.state d = 1) ≠ inn then er else 0 := rfl
  rw [hacc]
  have hst := state_any p S F d w hS
  generalize S.state d = st at *
  clear hS hacc
  by_cases h0 : st = 0
  · subst h0
    go_enter Tryz.func73, Tryz.ntmps73
    go_wp2_with (go_at_call 14; refine hst.mono ?_; rintro e w' ⟨rfl, rfl⟩)
    go_ret
    exact ⟨rfl, rfl⟩
  · have hb : (st == 0) = false := by simp [h0]
    rw [if_neg h0]
    by_cases h1 : st = 1
    · subst h1
      clear h0 hb
      cases inn
      · go_enter Tryz.func73, Tryz.ntmps73
        go_wp2_with (go_at_call 14; refine hst.mono ?_; rintro e w' ⟨rfl, rfl⟩)
        go_ret
        exact ⟨rfl, rfl⟩
      · go_enter Tryz.func73, Tryz.ntmps73
        go_wp2_with (go_at_call 14; refine hst.mono ?_; rintro e w' ⟨rfl, rfl⟩)
        go_ret
        exact ⟨rfl, rfl⟩
    · have hb1 : (st == 1) = false := by simp [h1]
      rw [decide_eq_false h1]
      clear h0 h1
      cases inn
      · go_enter Tryz.func73, Tryz.ntmps73
        go_wp2_with (go_at_call 14; refine hst.mono ?_; rintro e w' ⟨rfl, rfl⟩)
        go_ret
        exact ⟨rfl, rfl⟩
      · go_enter Tryz.func73, Tryz.ntmps73
        go_wp2_with (go_at_call 14; refine hst.mono ?_; rintro e w' ⟨rfl, rfl⟩)
        go_ret
        exact ⟨rfl, rfl⟩
end Go.Proofs.YtogmkbhbmmgidaaGreat
end
