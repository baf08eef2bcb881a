import Derived.Test.YtmcclbiaoeilkaaGreatP26
import Derived.Test.YtmcclbiaoeilkaaGreatP07
import Derived.Test.YtmcclbiaoeilkaaGreatP10
import Derived.Test.YtmcclbiaoeilkaaGreatP05
import Derived.Test.YtmcclbiaoeilkaaGreatP15
/- Part 27 of a proof; the last part says what is proved. -/
section
namespace Go.Proofs.YtmcclbiaoeilkaaGreat
open Go.RowKit Go.Sl Go.ChangeMaps
theorem save_any (p : Nat) (S : ShelfM) (F : HProp) (ge gc sq : Int) (im : List UInt8) (hsq : sq < 9223372036854775808) (w : World) (hS : Sat w (shelfAt SH p S * F)) :
    Calls Tryz.prog 10 #[.pointer (some ⟨p, 0, none⟩), .agg #[.int .i64 ge, .int .i64 gc, .int .i64 sq, .string (strB im)]] w (SvOut p F (saveM S ⟨⟨ge, gc⟩, sq, im⟩) w) := by
  by_cases hb : saveBad ⟨⟨ge, gc⟩, sq, im⟩
  · have e : saveM S ⟨⟨ge, gc⟩, sq, im⟩ = (S, 0, 1) := by unfold saveM; rw [if_pos hb]
    rw [e]
    cases hs : decide (sq < 0) with
    | true => exact save_b1 p S F ge gc sq im hs w hS
    | false =>
      cases he : wordM ge with
      | false => exact save_b2 p S F ge gc sq im hs he w hS
      | true =>
        cases hc : wordM gc with
        | false => exact save_b3 p S F ge gc sq im hs he hc w hS
        | true =>
          have h2 := (save_bits ge gc sq im).1 hb
          have e1 := of_decide_eq_false hs
          rw [he, hc] at h2
          have h3 : ge = 0 ∧ gc = 0 := by
            rcases h2 with h | h | h | h
            · exact absurd h e1
            · cases h
            · cases h
            · exact h
          exact save_b4 p S F ge gc sq im hs he hc (beq_iff_eq.2 h3.1) (beq_iff_eq.2 h3.2) w hS
  · have hn := fun h => hb ((save_bits ge gc sq im).2 h)
    have hs : decide (sq < 0) = false := decide_eq_false fun h => hn (.inl h)
    have he : wordM ge = true := by cases h : wordM ge with | true => rfl | false => exact absurd (.inr (.inl h)) hn
    have hc : wordM gc = true := by cases h : wordM gc with | true => rfl | false => exact absurd (.inr (.inr (.inl h))) hn
    have hz : (ge == 0) = false ∨ ((ge == 0) = true ∧ (gc == 0) = false) := by
      by_cases h0 : ge = 0
      · refine .inr ⟨beq_iff_eq.2 h0, beq_eq_false_iff_ne.2 fun h1 => hn (.inr (.inr (.inr ⟨h0, h1⟩)))⟩
      · exact .inl (beq_eq_false_iff_ne.2 h0)
    by_cases hl : capM S.cfg < (im.length : Int)
    · have e : saveM S ⟨⟨ge, gc⟩, sq, im⟩ = (S, 0, 2) := by unfold saveM; rw [if_neg hb, if_pos hl]
      rw [e]
      exact save_limit p S F ge gc sq im hs he hc hz (decide_eq_true hl) w hS
    · cases hoff : S.off with
      | true =>
        have e : saveM S ⟨⟨ge, gc⟩, sq, im⟩ = (S, 0, 14) := by unfold saveM; rw [if_neg hb, if_neg hl, if_pos hoff]
        rw [e]
        exact save_off p S F ge gc sq im hs he hc hz (decide_eq_false hl) hoff w hS
      | false =>
        obtain ⟨q, rfl⟩ : ∃ q : Nat, sq = (q : Int) := ⟨sq.toNat, by have := of_decide_eq_false hs; omega⟩
        exact save_main p S F ge gc q im (by omega) hs he hc hz (decide_eq_false hl) hoff w hS
end Go.Proofs.YtmcclbiaoeilkaaGreat
end
section
namespace Go.Proofs.YtmcclbiaoeilkaaGreat
open Go.RowKit Go.Sl Go.ChangeMaps
set_option maxHeartbeats 1000000 in
theorem later_any (n : Nat) (hn : n < 65536) (im : List UInt8) (w : World) : Calls Tryz.prog 25 #[.int .u16 (n : Int), .string (strB im)] w fun e w' => e = .returned (.agg #[.int .i64 1048576, .int .i64 (n : Int), .int .i64 (n : Int), .string (strB im)]) ∧ Below w.heap.size w w' := by
  have hw : IntKind.i64.wrap (n : Int) = (n : Int) := IntWalk.i64_in _ (by omega)
  have H1 := Lib.hid (And.intro ((Same.refl w).alloc (.cells #[.int .i64 1048576, .int .i64 (n : Int), .int .i64 (n : Int), .string (strB im)] TCk)) ((Sat.old w).alloc (.cells #[.int .i64 1048576, .int .i64 (n : Int), .int .i64 (n : Int), .string (strB im)] TCk)))
  go_enter Tryz.func25, Tryz.ntmps25
  go_wp2
  refine bodyPost_ret (v := .agg #[.int .i64 1048576, .int .i64 (n : Int), .int .i64 (n : Int), .string (strB im)]) (results1C Tryz.results25 (ResIs.row rfl H1.out.2.block Tryz.underlying44 rfl (infoCk rfl))) rfl ?_
  exact ⟨rfl, H1.out.1.below_of H1.out.2⟩
end Go.Proofs.YtmcclbiaoeilkaaGreat
end
section
namespace Go.Proofs.YtmcclbiaoeilkaaGreat
open Go.RowKit Go.Sl Go.ChangeMaps
set_option maxHeartbeats 400000 in
theorem within_any (n lo hi : Int) (w : World) : Calls Tryz.prog 83 #[.int .i64 n, .int .i64 lo, .int .i64 hi] w fun e w' => e = .returned (.bool (inB n lo hi)) ∧ w = w' := by
  by_cases h : lo ≤ n
  · have hb : inB n lo hi = decide (n ≤ hi) := by unfold inB; rw [decide_eq_true h]; rfl
    rw [hb]
    have hd : decide (lo ≤ n) = true := decide_eq_true h
    clear h hb
    go_enter Tryz.func83, Tryz.ntmps83
    go_wp2
    go_ret
    exact ⟨rfl, rfl⟩
  · have hb : inB n lo hi = false := by unfold inB; rw [decide_eq_false h]; rfl
    rw [hb]
    have hd : decide (lo ≤ n) = false := decide_eq_false h
    clear h hb
    go_enter Tryz.func83, Tryz.ntmps83
    go_wp2
    go_ret
    exact ⟨rfl, rfl⟩
set_option maxHeartbeats 8000000 in
theorem check_any (c : CfgM) (w : World) : Calls Tryz.prog 28 #[.agg (cfgA c)] w fun e w' => e = .returned (.int .i64 (if c.ok = true then 0 else 1)) ∧ Below w.heap.size w w' := by
  have hok : c.ok = (inB c.disks 1 64 && inB c.racks 1 8 && inB c.rows 1 4096 && inB c.spare 0 (c.disks - 1) && inB c.log 1 65536 && inB c.image 1 65536 && decide (c.disks % c.racks = 0)) := rfl
  cases h1 : inB c.disks 1 64
  case false =>
    have he : c.ok = false := by rw [hok]; simp [h1]
    rw [he]
    clear he hok
    go_enter Tryz.func28, Tryz.ntmps28
    go_wp2_with (go_at_call 83; refine (within_any _ _ _ _).mono ?_; rintro e w' ⟨rfl, rfl⟩)
    go_ret
    exact ⟨rfl, (Below.refl _ _).alloc (Nat.le_refl _) _⟩
  have hd := h1; unfold inB at hd; simp only [Bool.and_eq_true, decide_eq_true_eq] at hd
  have hd1 := hd.1; have hd2 := hd.2; clear hd
  cases h2 : inB c.racks 1 8
  case false =>
    have he : c.ok = false := by rw [hok]; simp [h2]
    rw [he]
    clear he hok
    go_enter Tryz.func28, Tryz.ntmps28
    go_wp2_with (go_at_call 83; refine (within_any _ _ _ _).mono ?_; rintro e w' ⟨rfl, rfl⟩)
    go_ret
    exact ⟨rfl, (Below.refl _ _).alloc (Nat.le_refl _) _⟩
  have hr := h2; unfold inB at hr; simp only [Bool.and_eq_true, decide_eq_true_eq] at hr
  have hr1 := hr.1; have hr2 := hr.2; clear hr
  cases h3 : inB c.rows 1 4096
  case false =>
    have he : c.ok = false := by rw [hok]; simp [h3]
    rw [he]
    clear he hok
    go_enter Tryz.func28, Tryz.ntmps28
    go_wp2_with (go_at_call 83; refine (within_any _ _ _ _).mono ?_; rintro e w' ⟨rfl, rfl⟩)
    go_ret
    exact ⟨rfl, (Below.refl _ _).alloc (Nat.le_refl _) _⟩
  cases h4 : inB c.spare 0 (c.disks - 1)
  case false =>
    have he : c.ok = false := by rw [hok]; simp [h4]
    rw [he]
    clear he hok
    go_enter Tryz.func28, Tryz.ntmps28
    go_wp2_with (go_at_call 83; refine (within_any _ _ _ _).mono ?_; rintro e w' ⟨rfl, rfl⟩)
    go_ret
    exact ⟨rfl, (Below.refl _ _).alloc (Nat.le_refl _) _⟩
  cases h5 : inB c.log 1 65536
  case false =>
    have he : c.ok = false := by rw [hok]; simp [h5]
    rw [he]
    clear he hok
    go_enter Tryz.func28, Tryz.ntmps28
    go_wp2_with (go_at_call 83; refine (within_any _ _ _ _).mono ?_; rintro e w' ⟨rfl, rfl⟩)
    go_ret
    exact ⟨rfl, (Below.refl _ _).alloc (Nat.le_refl _) _⟩
  cases h6 : inB c.image 1 65536
  case false =>
    have he : c.ok = false := by rw [hok]; simp [h6]
    rw [he]
    clear he hok
    go_enter Tryz.func28, Tryz.ntmps28
    go_wp2_with (go_at_call 83; refine (within_any _ _ _ _).mono ?_; rintro e w' ⟨rfl, rfl⟩)
    go_ret
    exact ⟨rfl, (Below.refl _ _).alloc (Nat.le_refl _) _⟩
  by_cases h7 : c.disks % c.racks = 0
  · have he : c.ok = true := by rw [hok]; simp [h1, h2, h3, h4, h5, h6, h7]
    rw [he]
    have h7' : (c.disks % c.racks != 0) = false := by simp [h7]
    clear he hok h7
    go_enter Tryz.func28, Tryz.ntmps28
    go_wp2_with (go_at_call 83; refine (within_any _ _ _ _).mono ?_; rintro e w' ⟨rfl, rfl⟩)
    go_ret
    exact ⟨rfl, (Below.refl _ _).alloc (Nat.le_refl _) _⟩
  · have he : c.ok = false := by rw [hok]; simp [h1, h2, h3, h4, h5, h6, h7]
    rw [he]
    have h7' : (c.disks % c.racks != 0) = true := by simp [h7]
    clear he hok h7
    go_enter Tryz.func28, Tryz.ntmps28
    go_wp2_with (go_at_call 83; refine (within_any _ _ _ _).mono ?_; rintro e w' ⟨rfl, rfl⟩)
    go_ret
    exact ⟨rfl, (Below.refl _ _).alloc (Nat.le_refl _) _⟩
end Go.Proofs.YtmcclbiaoeilkaaGreat
end
section
namespace Go.Proofs.YtmcclbiaoeilkaaGreat
open Go.RowKit Go.Sl Go.ChangeMaps
theorem ok_wf {c : CfgM} (h : c.ok = true) (hs : c.sectors ≤ 65536) : c.WF := by
  unfold CfgM.ok inB at h
  simp only [Bool.and_eq_true, decide_eq_true_eq] at h
  obtain ⟨⟨⟨⟨⟨⟨⟨a1, a2⟩, b1, b2⟩, c1, c2⟩, d1, d2⟩, e1, e2⟩, f1, f2⟩, _⟩ := h
  exact ⟨⟨a1, a2⟩, ⟨c1, c2⟩, ⟨e1, e2⟩, ⟨f1, f2⟩, hs⟩
theorem new_n {c : CfgM} (h : c.WF) : ((DiskM.new c.sectors).n : Int) = c.sectors := by
  have := h.small; have := h.log; have := h.image; have := h.rows
  show (((min (max c.sectors 0) 65536).toNat : Nat) : Int) = c.sectors
  unfold CfgM.sectors at *
  omega
theorem new_wf {c : CfgM} (h : c.WF) : (ShelfM.new c).WF :=
  ⟨h, by simp [ShelfM.new], fun b hb => by
    have := List.eq_of_mem_replicate hb
    subst this
    exact ⟨.inl rfl, fun _ => new_n h⟩, fun D hD => by simp [ShelfM.new] at hD, fun h => by simp [ShelfM.new] at h⟩
theorem cfg_cells {w : World} {B : Nat} {c : CfgM} {T : TypeId} {F : HProp} (h : Sat w (pts B (.cells (cfgA c) T (0, 0)) * F)) :
    (w.cell? ⟨B, 0, none⟩ = some (.int .i64 c.disks) ∧ w.cell? ⟨B, 1, none⟩ = some (.int .i64 c.racks) ∧ w.cell? ⟨B, 2, none⟩ = some (.int .i64 c.rows)) ∧
    (w.cell? ⟨B, 3, none⟩ = some (.int .i64 c.spare) ∧ w.cell? ⟨B, 4, none⟩ = some (.int .i64 c.log) ∧ w.cell? ⟨B, 5, none⟩ = some (.int .i64 c.image)) ∧ B < w.heap.size ∧ w.rangeAt B 0 (cfgL c) := by
  have hb := cells_at h.block
  refine ⟨⟨hb 0, hb 1, hb 2⟩, ⟨hb 3, hb 4, hb 5⟩, h.lt, fun j u hu => ?_⟩
  rw [hb, Nat.zero_add, ← hu]
  simp [cfgL]
structure NewSt (w : World) (p B0 : Nat) (c : CfgM) (F : HProp) (i : Value) (wr : World) : Prop where
  st : ∃ (k : Nat) (ps : List Nat) (vb : Value), (k : Int) ≤ c.disks ∧ i = .int .i64 k ∧ ps.length = k ∧ Same w wr ∧ Sat wr (pts p (.cells (shelfC c vb (.slice none 0 0) false false 0) TSh (0, 0)) * (ownAt TBay 2 vb k (baysL ps (List.replicate k ⟨DiskM.new c.sectors, 1⟩)) *
    (disksAt TD TS ps (List.replicate k (DiskM.new c.sectors)) * (pts B0 (.cells (cfgA c) TCfg (0, 0)) * F))))
theorem info_Bay3 : (Tryz.prog.info? TBay).map (fun i => (i.zero, i.size, i.bytes)) = some (some (.agg #[.pointer none, .int .i64 0]), 2, 16) := by kernel_rfl
set_option maxHeartbeats 400000 in
theorem snew_bad (c : CfgM) (F : HProp) (w : World) (hF : Sat w F) (hok : c.ok = false) :
    Calls Tryz.prog 7 #[.agg (cfgA c)] w fun e w' => e = .returned (.tuple #[.pointer none, .int .i64 1]) ∧ Hid (Same w w' ∧ Sat w' F) := by
  have hc := check_any c (w.alloc (.cells (cfgA c) TCfg))
  rw [if_neg (by rw [hok]; decide)] at hc
  have HF := Lib.hid hF
  clear hF hok
  go_enter Tryz.func7, Tryz.ntmps7
  go_wp2_with (go_at_call 28; refine hc.mono ?_; rintro e w1 ⟨rfl, hb⟩; have HB := Lib.hid hb; clear hb hc)
  go_ret2
  exact ⟨rfl, ((Same.refl w).alloc _).below HB.out, (HF.out.allocKeep _).below HB.out⟩
set_option maxRecDepth 100000 in
set_option maxHeartbeats 2000000 in
theorem snew_ok (c : CfgM) (F : HProp) (w : World) (hF : Sat w F) (hok : c.ok = true) (hsm : c.sectors ≤ 65536) :
    Calls Tryz.prog 7 #[.agg (cfgA c)] w fun e w' => ∃ p, e = .returned (.tuple #[.pointer (some ⟨p, 0, none⟩), .int .i64 0]) ∧ Hid (Same w w' ∧ Sat w' (shelfAt SH p (ShelfM.new c) * F)) := by
  have hc := check_any c (w.alloc (.cells (cfgA c) TCfg))
  rw [if_pos hok] at hc
  have hwf := ok_wf hok hsm
  have hsec := fun w' => sectors_any c w' (by have := hwf.log; omega) (by have := hwf.image; omega) (by have := hwf.rows; omega)
  have hlim : decide (65536 < c.sectors) = false := decide_eq_false (by omega)
  have HF := Lib.hid (And.intro ((Same.refl w).alloc (.cells (cfgA c) TCfg)) (hF.alloc (.cells (cfgA c) TCfg)))
  have HWF := Lib.hid hwf
  have hd1 := hwf.disks.1
  have hd2 := hwf.disks.2
  obtain ⟨sc, hsc⟩ : ∃ sc, c.sectors = sc := ⟨_, rfl⟩
  rw [hsc] at hsec hlim
  have HSC := Lib.hid hsc
  have HSEC := Lib.hid hsec
  clear hF hok hsm hwf hsc hsec
  go_enter Tryz.func7, Tryz.ntmps7
  go_upto_region 5 with (first
    | (go_at_call 28; refine hc.mono ?_; rintro e w1 ⟨rfl, hb⟩; replace HF := Lib.hid (And.intro (HF.out.1.below hb) (HF.out.2.below hb)); obtain ⟨⟨b0, b1, b2⟩, ⟨b3, b4, b5⟩, bl, br⟩ := cfg_cells HF.out.2; clear hb hc br)
    | (go_at_call 29; refine (HSEC.out _).mono ?_; rintro e w2 ⟨rfl, hb⟩; replace HF := Lib.hid (And.intro (HF.out.1.below hb) (HF.out.2.below hb)); clear b0 b1 b2 b3 b4 b5 bl; obtain ⟨⟨b0, b1, b2⟩, ⟨b3, b4, b5⟩, bl, br⟩ := cfg_cells HF.out.2; clear hb br))
  go_upto_region 7 with (fail)
  have hA := (HF.out.2.alloc (.cells (shelfC c (.slice none 0 0) (.slice none 0 0) false false 0) TSh))
  have hSm := HF.out.1.alloc (.cells (shelfC c (.slice none 0 0) (.slice none 0 0) false false 0) TSh)
  clear HF b0 b1 b2 b3 b4 b5 bl
  unfold shelfC at hA hSm
  generalize w2.alloc (.cells _ TSh) = W at hA hSm ⊢
  generalize w2.heap.size = p at hA ⊢
  generalize w.heap.size = B0 at hA ⊢
  have HA := Lib.hid (And.intro hSm hA)
  clear hA hSm
  go_loopw [16] (fun i wr => NewSt w p B0 c F i wr) (fun i _ => c.disks.toNat - (intOf i).toNat)
  case atStart =>
    have h0 : Sat W (ownAt TBay 2 (.slice none 0 0) 0 [] * (pts p (.cells (shelfC c (.slice none 0 0) (.slice none 0 0) false false 0) TSh (0, 0)) * (emp * (pts B0 (.cells (cfgA c) TCfg (0, 0)) * F)))) := ownAt_nil.2 (by rw [emp_star]; exact HA.out.2)
    exact ⟨0, [], .slice none 0 0, by omega, rfl, rfl, HA.out.1, h0.perm (by show _ = pts p _ * (ownAt TBay 2 _ 0 [] * (emp * _)); unfold shelfC; ac_rfl)⟩
  case round =>
    obtain ⟨k, ps, vb, hk, rfl, hps, hsm, hs⟩ := hrel.st
    clear hrel HA
    have H1 := Lib.hid (And.intro hsm hs)
    have HPS := Lib.hid hps
    have hp6 : wr.cell? ⟨p, 6, none⟩ = some vb := cells_at hs.block 6
    obtain ⟨_, _, hp, hra⟩ := cfg_cells (hs.perm (show _ = pts B0 (.cells (cfgA c) TCfg (0, 0)) * (pts p (.cells (shelfC c vb (.slice none 0 0) false false 0) TSh (0, 0)) * (ownAt TBay 2 vb k (baysL ps (List.replicate k ⟨DiskM.new c.sectors, 1⟩)) *
      (disksAt TD TS ps (List.replicate k (DiskM.new c.sectors)) * F))) from by ac_rfl))
    clear hsm hs hps
    by_cases hlt : (k : Int) < c.disks
    · have hltd : decide ((k : Int) < c.disks) = true := decide_eq_true hlt
      go_upto_region 8 with (fail)
      have hS0 : wr.drew.cell? ⟨p, 6, none⟩ = some vb ∧ wr.drew.rangeAt B0 0 (cfgL c) := ⟨hp6, hra⟩
      refine reg_begin (fun w' => w'.cell? ⟨p, 6, none⟩ = some vb ∧ w'.rangeAt B0 0 (cfgL c)) (by kernel_rfl) ?_
      (apply reg_take 0 rfl rfl (by decide +kernel) rfl); (rintro w' ⟨h1, h2⟩; go_simp; rfl); exact hS0; simp only [List.setIfInBounds_toArray, List.set_cons_succ, List.set_cons_zero]
      (apply reg_take 1 rfl rfl (by decide +kernel) rfl); (rintro w' ⟨h1, h2⟩; go_simp; rfl); exact hS0; simp only [List.setIfInBounds_toArray, List.set_cons_succ, List.set_cons_zero]
      (apply reg_take 2 rfl rfl (by decide +kernel) rfl); (rintro w' ⟨h1, h2⟩; go_simp; rfl); exact hS0; simp only [List.setIfInBounds_toArray, List.set_cons_succ, List.set_cons_zero]
      (apply reg_take 3 rfl rfl (by decide +kernel) rfl); (rintro w' ⟨h1, h2⟩; go_simp; rfl); exact hS0; simp only [List.setIfInBounds_toArray, List.set_cons_succ, List.set_cons_zero]
      (apply reg_take 4 rfl rfl (by decide +kernel) rfl); (rintro w' ⟨h1, h2⟩; go_simp; rfl); exact hS0; simp only [List.setIfInBounds_toArray, List.set_cons_succ, List.set_cons_zero]
      refine reg_take 5 (v := .agg (cfgA c)) rfl rfl (by decide +kernel) rfl (fun w' h => exec_load rfl rfl (load_cfg h.2)) hS0 ?_; simp only [List.setIfInBounds_toArray, List.set_cons_succ, List.set_cons_zero]
      refine reg_call 6 rfl rfl (by decide +kernel) rfl (f := 29) (args := #[.agg (cfgA c)]) (R := fun v w' => v = .int .i64 sc ∧ Hid (Below wr.heap.size wr w')) (by kernel_rfl) ((HSEC.out wr.drew).mono fun e w' h => ⟨_, h.1, rfl, ⟨h.2.os, h.2.tape, h.2.output, h.2.size, h.2.block⟩⟩) ?_
      rintro _ w1 ⟨rfl, hb1⟩
      replace H1 := Lib.hid (And.intro (H1.out.1.below hb1.out) (H1.out.2.below hb1.out))
      have hS1 : w1.cell? ⟨p, 6, none⟩ = some vb ∧ w1.rangeAt B0 0 (cfgL c) := ⟨(hb1.out.cell (p := ⟨p, 6, none⟩) (World.block_lt_of_cell? _ _ hp6)).trans hp6, fun j u hu => (hb1.out.cell (p := ⟨B0, 0 + j, none⟩) hp).trans (hra j u hu)⟩
      refine ⟨hS1, ?_⟩
      simp only [List.setIfInBounds_toArray, List.set_cons_succ, List.set_cons_zero]
      refine reg_call 7 rfl rfl (by decide +kernel) rfl (f := 30) (args := #[.int .i64 sc]) (R := fun v w' => ∃ q, v = .pointer (some ⟨q, 0, none⟩) ∧ Hid (Same w w' ∧ Sat w' (diskAt TD TS q (DiskM.new c.sectors) * (pts p (.cells (shelfC c vb (.slice none 0 0) false false 0) TSh (0, 0)) * (ownAt TBay 2 vb k (baysL ps (List.replicate k ⟨DiskM.new c.sectors, 1⟩)) *
        (disksAt TD TS ps (List.replicate k (DiskM.new c.sectors)) * (pts B0 (.cells (cfgA c) TCfg (0, 0)) * F))))))) (by kernel_rfl)
        ((new_any sc _ w1 H1.out.2).mono fun e w' h => by
          obtain ⟨q', rfl, h1, h2⟩ := h
          rw [show DiskM.new sc = DiskM.new c.sectors by rw [HSC.out]] at h2
          exact ⟨_, rfl, q', rfl, H1.out.1.trans h1, h2⟩) ?_
      rintro _ w3 ⟨q, rfl, h3⟩
      have hS3 : w3.cell? ⟨p, 6, none⟩ = some vb ∧ w3.rangeAt B0 0 (cfgL c) := ⟨cells_at h3.out.2.right.block 6, (cfg_cells (h3.out.2.perm (show _ = pts B0 (.cells (cfgA c) TCfg (0, 0)) * (diskAt TD TS q (DiskM.new c.sectors) * (pts p (.cells (shelfC c vb (.slice none 0 0) false false 0) TSh (0, 0)) * (ownAt TBay 2 vb k (baysL ps (List.replicate k ⟨DiskM.new c.sectors, 1⟩)) *
        (disksAt TD TS ps (List.replicate k (DiskM.new c.sectors)) * F)))) from by ac_rfl))).2.2.2⟩
      refine ⟨hS3, ?_⟩
      simp only [List.setIfInBounds_toArray, List.set_cons_succ, List.set_cons_zero]
      (apply reg_take 8 rfl rfl (by decide +kernel) rfl); (rintro w' ⟨h1, h2⟩; go_simp; rfl); exact hS3; simp only [List.setIfInBounds_toArray, List.set_cons_succ, List.set_cons_zero]
      have hA4 := h3.out.2.alloc (.cells #[.pointer (some ⟨q, 0, none⟩), .int .i64 1] TBay)
      have hS4 : (w3.alloc (.cells #[.pointer (some ⟨q, 0, none⟩), .int .i64 1] TBay)).cell? ⟨p, 6, none⟩ = some vb ∧ (w3.alloc (.cells #[.pointer (some ⟨q, 0, none⟩), .int .i64 1] TBay)).rangeAt B0 0 (cfgL c) := ⟨cells_at hA4.right.right.block 6, fun j u hu => (World.cell?_alloc_lt _ _ _ (World.block_lt_of_cell? _ _ (hS3.2 j u hu))).trans (hS3.2 j u hu)⟩
      refine reg_run 9 (.slice (some ⟨w3.heap.size, 0, none⟩) 1 1) (w3.alloc (.cells #[.pointer (some ⟨q, 0, none⟩), .int .i64 1] TBay)) rfl rfl (by decide +kernel) rfl (by go_simp) (hS4) ?_; simp only [List.setIfInBounds_toArray, List.set_cons_succ, List.set_cons_zero]
      have hA5 := hA4.perm (show _ = ownAt TBay 2 vb k (baysL ps (List.replicate k ⟨DiskM.new c.sectors, 1⟩)) * (pts w3.heap.size (.cells #[.pointer (some ⟨q, 0, none⟩), .int .i64 1] TBay (0, 0)) * (diskAt TD TS q (DiskM.new c.sectors) * (pts p (.cells (shelfC c vb (.slice none 0 0) false false 0) TSh (0, 0)) *
        (disksAt TD TS ps (List.replicate k (DiskM.new c.sectors)) * (pts B0 (.cells (cfgA c) TCfg (0, 0)) * F))))) from by ac_rfl)
      obtain ⟨ti, hti, hz0, hts, hz2⟩ := info_parts info_Bay3
      obtain ⟨v', w5, hr, hsm5, hs5⟩ := run_append_ownAt (P := Tryz.prog) 76 76 TBay ti _ Tryz.underlying76 hti hz0 (by rw [hts]; rfl) vb k (baysL ps (List.replicate k ⟨DiskM.new c.sectors, 1⟩)) (by rw [hts]; exact hA5) ⟨w3.heap.size, 0, none⟩ 1 1 [.pointer (some ⟨q, 0, none⟩), .int .i64 1] (by rw [hts]; rfl)
        (by intro j u hu; rw [Addr.add_mid, cells_at hA5.right.block, Nat.zero_add]; simpa using hu) (by simp [Value.oneCell']) (by unfold maxLen; omega) (by rw [hz2]; omega)
      rw [hts] at hs5
      have hs6 := hs5.perm (show _ = pts p (.cells (shelfC c vb (.slice none 0 0) false false 0) TSh (0, 0)) * (ownAt TBay 2 v' (k + 1) (baysL ps (List.replicate k ⟨DiskM.new c.sectors, 1⟩) ++ [.pointer (some ⟨q, 0, none⟩), .int .i64 1]) *
        (pts w3.heap.size (.cells #[.pointer (some ⟨q, 0, none⟩), .int .i64 1] TBay (0, 0)) * (diskAt TD TS q (DiskM.new c.sectors) * (disksAt TD TS ps (List.replicate k (DiskM.new c.sectors)) * (pts B0 (.cells (cfgA c) TCfg (0, 0)) * F))))) from by ac_rfl)
      have hS6 : w5.cell? ⟨p, 6, none⟩ = some vb ∧ w5.rangeAt B0 0 (cfgL c) := ⟨cells_at hs6.block 6, (cfg_cells (hs6.perm (show _ = pts B0 (.cells (cfgA c) TCfg (0, 0)) * (pts p (.cells (shelfC c vb (.slice none 0 0) false false 0) TSh (0, 0)) * (ownAt TBay 2 v' (k + 1) (baysL ps (List.replicate k ⟨DiskM.new c.sectors, 1⟩) ++ [.pointer (some ⟨q, 0, none⟩), .int .i64 1]) *
        (pts w3.heap.size (.cells #[.pointer (some ⟨q, 0, none⟩), .int .i64 1] TBay (0, 0)) * (diskAt TD TS q (DiskM.new c.sectors) * (disksAt TD TS ps (List.replicate k (DiskM.new c.sectors)) * F))))) from by ac_rfl))).2.2.2⟩
      refine reg_run 10 (v') (w5) rfl rfl (by decide +kernel) rfl (exec_append rfl rfl rfl hr) (hS6) ?_; simp only [List.setIfInBounds_toArray, List.set_cons_succ, List.set_cons_zero]
      (apply reg_take 11 rfl rfl (by decide +kernel) rfl); (rintro w' ⟨h1, h2⟩; go_simp; rfl); exact hS6; simp only [List.setIfInBounds_toArray, List.set_cons_succ, List.set_cons_zero]
      (apply reg_take 12 rfl rfl (by decide +kernel) rfl); (rintro w' ⟨h1, h2⟩; go_simp; rfl); exact hS6; simp only [List.setIfInBounds_toArray, List.set_cons_succ, List.set_cons_zero]
      obtain ⟨ip, hip, hip2⟩ := Option.map_eq_some_iff.1 (show (Tryz.prog.info? 76).map (·.size) = some 1 by kernel_rfl)
      obtain ⟨ao', cp', rfl⟩ := ownAt_slice hs5
      refine reg_do_last 13 (w5.setCell ⟨p, 6, none⟩ (.slice ao' (k + 1) cp')) rfl rfl (by decide +kernel) rfl (exec_store_cell rfl rfl rfl hip hip2 rfl hS6.1 (thawed_at hs6.block 6)) ?_
      go_wp2
      go_roundw
      case rel =>
        refine ⟨⟨k + 1, ps ++ [q], .slice ao' (k + 1) cp', by omega, rfl, by rw [List.length_append, HPS.out]; rfl, (((h3.out.1.alloc _).trans hsm5).setCell _ _), ?_⟩⟩
        rw [List.replicate_succ', List.replicate_succ', baysL_app _ _ _ _ (by rw [HPS.out]; simp), disksAt_app _ _ _ _ (by rw [HPS.out]; simp)]
        have h9 := (hs6.setCell (i := 6) (.slice ao' (k + 1) cp'))
        exact (h9.perm (show _ = pts w3.heap.size (.cells #[.pointer (some ⟨q, 0, none⟩), .int .i64 1] TBay (0, 0)) * (pts p (.cells (shelfC c (.slice ao' (k + 1) cp') (.slice none 0 0) false false 0) TSh (0, 0)) * (ownAt TBay 2 (.slice ao' (k + 1) cp') (k + 1) (baysL ps (List.replicate k ⟨DiskM.new c.sectors, 1⟩) ++ [.pointer (some ⟨q, 0, none⟩), .int .i64 1]) *
          (disksAt TD TS ps (List.replicate k (DiskM.new c.sectors)) * diskAt TD TS q (DiskM.new c.sectors) * (pts B0 (.cells (cfgA c) TCfg (0, 0)) * F)))) from by unfold shelfC; simp only [List.setIfInBounds_toArray, List.set_cons_succ, List.set_cons_zero]; ac_rfl)).right
      case measure => simp only [intOf]; omega
    · have hltd : decide ((k : Int) < c.disks) = false := decide_eq_false hlt
      have hke : k = c.disks.toNat := by omega
      clear hra
      go_wp2
      go_ret2
      refine ⟨p, rfl, H1.out.1, shelfAt_iff.2 ⟨vb, .slice none 0 0, ps, [], ⟨new_wf HWF.out, by rw [HPS.out, hke]; simp [ShelfM.new], rfl⟩, ?_⟩⟩
      have h9 : Sat wr (ownAt TPtr 1 (.slice none 0 0) 0 [] * _) := ownAt_nil.2 H1.out.2
      rw [hke] at h9
      have e1 : (ShelfM.new c).bays = List.replicate c.disks.toNat ⟨DiskM.new c.sectors, 1⟩ := rfl
      have e2 : (ShelfM.new c).bays.map BayM.disk = List.replicate c.disks.toNat (DiskM.new c.sectors) := by rw [e1]; simp
      rw [e2, e1, List.length_replicate]
      have h10 := h9.perm (show _ = pts B0 (.cells (cfgA c) TCfg (0, 0)) * (pts p (.cells (shelfC c vb (.slice none 0 0) false false 0) TSh (0, 0)) * (ownAt TBay 2 vb c.disks.toNat (baysL ps (List.replicate c.disks.toNat ⟨DiskM.new c.sectors, 1⟩)) * (ownAt TPtr 1 (.slice none 0 0) 0 [] * (disksAt TD TS ps (List.replicate c.disks.toNat (DiskM.new c.sectors)) * F)))) from by ac_rfl)
      have h11 := h10.right
      exact h11.perm (by show _ = pts p _ * (_ * (ownAt TPtr 1 _ 0 [] * (_ * (emp * F)))); rw [emp_star]; rfl)
end Go.Proofs.YtmcclbiaoeilkaaGreat
end
section
namespace Go.Proofs.YtmcclbiaoeilkaaGreat
open Go.RowKit Go.Sl Go.ChangeMaps
end Go.Proofs.YtmcclbiaoeilkaaGreat
namespace Go.Proofs.YtmcclbiaoeilkaaGreat
open Go.RowKit Go.Sl Go.ChangeMaps
def cfgW (size : Int) : CfgM := ⟨2, 1, 1, 0, size + 3, 1⟩
theorem new_fine {c : CfgM} (h : c.WF) : FineS c (ShelfM.new c) ∧ ∀ d : Int, 0 ≤ d → d < c.disks → conL (ShelfM.new c) d = fun _ => zsec := by
  have hb := fun (d : Int) (h0 : 0 ≤ d) (h1 : d < c.disks) => ShelfM.new_bay c h0 h1
  refine ⟨⟨new_wf h, rfl, rfl, rfl, fun d h0 h1 => ShelfM.bay_state (hb d h0 h1), fun d h0 h1 i => ?_⟩, fun d h0 h1 => funext fun j => ?_⟩
  · rw [ShelfM.bay_disk (hb d h0 h1)]; rfl
  · unfold conL; rw [ShelfM.bay_disk (hb d h0 h1)]; rfl
theorem LogK.next {f : Nat → List UInt8} {N : Nat} {d : Int} {rs : List (List UInt8)} (h : LogK f N d rs) {k : Nat} (hk : k < rs.length) : ∃ t1, nextL f N d (tailK rs k) = some (rs[k], t1) ∧ t1 = tailK rs (k + 1) := by
  have h1 := h.chain k (by omega)
  rw [List.drop_eq_getElem_cons hk] at h1
  cases h1 with
  | cons hn _ =>
    refine ⟨_, hn, ?_⟩
    have h2 := h.pre (k + 1) (by omega)
    have h3 := (h.pre k (by omega)).snoc hn
    have e : rs.take k ++ [rs[k]] = rs.take (k + 1) := by rw [List.take_add_one, List.getElem?_eq_getElem hk]; rfl
    rw [e] at h3
    exact ChainL.end_eq h3 h2
end Go.Proofs.YtmcclbiaoeilkaaGreat
end
