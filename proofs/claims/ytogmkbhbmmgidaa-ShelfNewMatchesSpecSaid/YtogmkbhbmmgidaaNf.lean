/- solventlaw17.alike. -/
import Derived.Test.YtogmkbhbmmgidaaNe
import Derived.Test.YtogmkbhbmmgidaaSf
namespace Go.Proofs.Ytogmkbhbmmgidaa
open Go.RowKit Go.Sl Go.ChangeMaps

set_option maxRecDepth 20000 in
theorem neq_cfg (c : CfgM) (w : World) : (binOp .neq TCfg (.agg (cfgA c)) (.agg (cfgA c))).run Try.prog w = .ok (.bool false) w := by
  have h1 : (c.disks == c.disks) = true := beq_self_eq_true _
  have h2 : (c.racks == c.racks) = true := beq_self_eq_true _
  have h3 : (c.rows == c.rows) = true := beq_self_eq_true _
  have h4 : (c.spare == c.spare) = true := beq_self_eq_true _
  have h5 : (c.log == c.log) = true := beq_self_eq_true _
  have h6 : (c.image == c.image) = true := beq_self_eq_true _
  go_simp
theorem pls_cells {T : TypeId} {w : World} {ao : Option Addr} {n cap : Nat} {L : List PlaceM} {F : HProp} (hn : L.length = n) (h : Sat w (ownAt T 3 (.slice ao n cap) n (plsC L) * F)) {i : Nat} {a : PlaceM} (hx : L[i]? = some a) : ∃ g : Nat, ao = some ⟨g, 0, none⟩ ∧
    w.cell? ⟨g, i * 3, none⟩ = some (.int .i64 a.disk) ∧ w.cell? ⟨g, i * 3 + 1, none⟩ = some (.int .i64 a.area) ∧ w.cell? ⟨g, i * 3 + 2, none⟩ = some (.int .i64 a.index) := by
  obtain ⟨g, cap', e, hc⟩ := ownAt_cells h (by have := (List.getElem?_eq_some_iff.1 hx).1; omega)
  simp only [Value.slice.injEq] at e
  have k := flat_at4 (fun a : PlaceM => (plA a).toList) 3 (fun _ => rfl) L i a hx
  refine ⟨g, e.1, ?_, hc _ _ (k 1 _ rfl), hc _ _ (k 2 _ rfl)⟩
  have := hc _ _ (k 0 _ rfl)
  rwa [Nat.add_zero] at this
theorem meas_al {n : Int} {k : Nat} (h : (k : Int) - 1 ≤ n) : (n + 1 - (k : Int)).toNat < (n + 1 - ((k : Int) - 1)).toNat := by omega
structure AlkA (W : World) (n : Int) (i : Value) (wr : World) : Prop where
  st : wr = W ∧ ∃ k : Nat, (k : Int) ≤ n + 2 ∧ i = .int .i64 ((k : Int) - 1)
structure AlkB (w : World) (p q : Nat) (S : ShelfM) (F : HProp) (B : Nat) (v : Value) (n : Nat) (L : List PlaceM) (i : Value) (wr : World) : Prop where
  st : ∃ k : Nat, k ≤ n ∧ i = .int .i64 (k : Int) ∧ Hid (Same w wr ∧ Sat wr (shelfAt SH p S * (rshAt RS q S * (ownAt TPl 3 v n (plsC L) * (pts B (.cells (cfgA S.cfg) TCfg (0, 0)) * F)))))
set_option maxRecDepth 40000 in
set_option maxHeartbeats 4000000 in
theorem alike_any (p q : Nat) (S : ShelfM) (F : HProp) (w : World) (hS : Sat w (shelfAt SH p S * (rshAt RS q S * F))) (hd : S.cfg.disks ≤ 6) (hs : ∀ j, j < 4 → szN S.cfg j ≤ 24) :
    Calls Try.prog 14 #[.pointer (some ⟨p, 0, none⟩), .pointer (some ⟨q, 0, none⟩)] w fun e w' => e = .returned (.bool true) ∧ Hid (Same w w' ∧ Sat w' (shelfAt SH p S * (rshAt RS q S * F))) := by
  have hwf := shelfAt_wf hS
  have HWF := Lib.hid hwf
  have HD := Lib.hid (And.intro hd hs)
  have HS := Lib.hid hS
  have hr := hS.perm (show _ = rshAt RS q S * (shelfAt SH p S * F) from by ac_rfl)
  have hcf := Lib.hid (rconfig_any q S _ w hr)
  clear hS hr hwf hd hs
  go_enter Try.func14, Try.ntmps14
  go_upto_region 2 with (go_at_call 40; refine hcf.out.mono ?_; rintro e w1 ⟨rfl, hb⟩; replace HS := Lib.hid (And.intro ((Same.refl w).below hb) (HS.out.below hb)); clear hb)
  have hA := HS.out.2.alloc (.cells (cfgA S.cfg) TCfg)
  have hA1 := hA.perm (show _ = shelfAt SH p S * (rshAt RS q S * (pts w1.heap.size (.cells (cfgA S.cfg) TCfg (0, 0)) * F)) from by ac_rfl)
  have H1 := Lib.hid (show Same w (w1.alloc (.cells (cfgA S.cfg) TCfg)).drew ∧ Sat (w1.alloc (.cells (cfgA S.cfg) TCfg)).drew (shelfAt SH p S * (rshAt RS q S * (pts w1.heap.size (.cells (cfgA S.cfg) TCfg (0, 0)) * F))) from ⟨(HS.out.1.alloc _).drew, hA1.drew⟩)
  clear hA hA1 HS hcf
  generalize hB : w1.heap.size = B at H1 ⊢
  clear hB
  refine reg_begin (fun w' => w'.rangeAt B 0 (cfgL S.cfg)) (by kernel_rfl) ?_
  generalize (w1.alloc _).drew = W1 at H1 ⊢
  have hS1 : W1.rangeAt B 0 (cfgL S.cfg) := (cfg_cells (H1.out.2.perm (show _ = pts B (.cells (cfgA S.cfg) TCfg (0, 0)) * (shelfAt SH p S * (rshAt RS q S * F)) from by ac_rfl))).2.2.2
  have hn := fun w => neq_cfg S.cfg w
  have hup : ((!S.off) != (!S.off)) = false := by simp
  (apply reg_take 0 rfl rfl (by decide +kernel) rfl); (intro w' h1; go_simp; rfl); exact hS1; simp only [List.setIfInBounds_toArray, List.set_cons_succ, List.set_cons_zero]
  refine reg_take 2 (v := .agg (cfgA S.cfg)) rfl rfl (by decide +kernel) rfl (fun w' h => exec_load rfl rfl (load_cfg h)) hS1 ?_; simp only [List.setIfInBounds_toArray, List.set_cons_succ, List.set_cons_zero]
  refine reg_call 1 rfl rfl (by decide +kernel) rfl (f := 41) (args := #[.pointer (some ⟨p, 0, none⟩)]) (R := fun v w' => v = .agg (cfgA S.cfg) ∧ Hid (Same w w' ∧ Sat w' (shelfAt SH p S * (rshAt RS q S * (pts B (.cells (cfgA S.cfg) TCfg (0, 0)) * F))))) (by kernel_rfl)
    ((config_any p S _ W1 H1.out.2).mono fun e w' h => ⟨_, h.1, rfl, H1.out.1.below h.2, H1.out.2.below h.2⟩) ?_
  rintro _ W2 ⟨rfl, H2⟩
  have hS2 : W2.rangeAt B 0 (cfgL S.cfg) := (cfg_cells (H2.out.2.perm (show _ = pts B (.cells (cfgA S.cfg) TCfg (0, 0)) * (shelfAt SH p S * (rshAt RS q S * F)) from by ac_rfl))).2.2.2
  refine ⟨hS2, ?_⟩
  simp only [List.setIfInBounds_toArray, List.set_cons_succ, List.set_cons_zero]
  clear hS1 H1
  (apply reg_take 3 rfl rfl (by decide +kernel) rfl); (intro w' h1; go_simp; rfl); exact hS2; simp only [List.setIfInBounds_toArray, List.set_cons_succ, List.set_cons_zero]
  (apply reg_take 4 rfl rfl (by decide +kernel) rfl); (intro w' h1; go_simp; rfl); exact hS2; simp only [List.setIfInBounds_toArray, List.set_cons_succ, List.set_cons_zero]
  (apply reg_take 5 rfl rfl (by decide +kernel) rfl); (intro w' h1; go_simp; rfl); exact hS2; simp only [List.setIfInBounds_toArray, List.set_cons_succ, List.set_cons_zero]
  (apply reg_take 7 rfl rfl (by decide +kernel) rfl); (intro w' h1; go_simp; rfl); exact hS2; simp only [List.setIfInBounds_toArray, List.set_cons_succ, List.set_cons_zero]
  refine reg_call 6 rfl rfl (by decide +kernel) rfl (f := 20) (args := #[.pointer (some ⟨p, 0, none⟩)]) (R := fun v w' => v = .bool (!S.off) ∧ W2 = w') (by kernel_rfl)
    ((up_any p S _ W2 H2.out.2).mono fun e w' h => ⟨_, h.1, rfl, h.2⟩) ?_
  rintro _ _ ⟨rfl, rfl⟩
  refine ⟨hS2, ?_⟩
  simp only [List.setIfInBounds_toArray, List.set_cons_succ, List.set_cons_zero]
  refine reg_call 8 rfl rfl (by decide +kernel) rfl (f := 42) (args := #[.pointer (some ⟨q, 0, none⟩)]) (R := fun v w' => v = .bool (!S.off) ∧ W2 = w') (by kernel_rfl)
    ((rup_any q S _ W2 (H2.out.2.perm (show _ = rshAt RS q S * (shelfAt SH p S * (pts B (.cells (cfgA S.cfg) TCfg (0, 0)) * F)) from by ac_rfl))).mono fun e w' h => ⟨_, h.1, rfl, h.2⟩) ?_
  rintro _ _ ⟨rfl, rfl⟩
  refine ⟨hS2, ?_⟩
  simp only [List.setIfInBounds_toArray, List.set_cons_succ, List.set_cons_zero]
  generalize (!S.off) = up at hup ⊢
  (apply reg_take 9 rfl rfl (by decide +kernel) rfl); (intro w' h1; go_simp; rfl); exact hS2; simp only [List.setIfInBounds_toArray, List.set_cons_succ, List.set_cons_zero]
  refine reg_run_last 10 (.bool false) (W2) rfl rfl (by decide +kernel) rfl (by go_simp) ?_; simp only [List.setIfInBounds_toArray, List.set_cons_succ, List.set_cons_zero]
  clear hS2 hup hn
  obtain ⟨⟨c0, c1, c2⟩, ⟨c3, c4, c5⟩, _, _⟩ := cfg_cells (H2.out.2.perm (show _ = pts B (.cells (cfgA S.cfg) TCfg (0, 0)) * (shelfAt SH p S * (rshAt RS q S * F)) from by ac_rfl))
  have HC := Lib.hid (show 1 ≤ S.cfg.disks ∧ S.cfg.disks ≤ 6 from ⟨HWF.out.cfg.disks.1, HD.out.1⟩)
  obtain ⟨n, hn⟩ : ∃ n, Hid (S.cfg.disks = n) := ⟨_, Lib.hid rfl⟩
  rw [hn.out] at c0
  go_upto_region 5 with (fail)
  have HA := Lib.hid (fun d => state_any p S _ d W2 H2.out.2)
  have HB := Lib.hid (fun d => rstate_any q S _ d W2 (H2.out.2.perm (show _ = rshAt RS q S * (shelfAt SH p S * (pts B (.cells (cfgA S.cfg) TCfg (0, 0)) * F)) from by ac_rfl)))
  go_loopw [6] (fun i wr => AlkA W2 n i wr) (fun i _ => (n + 1 - intOf i).toNat)
  case atStart => exact ⟨rfl, 0, by have := HC.out; have := hn.out; omega, rfl⟩
  case round =>
    obtain ⟨rfl, k, hk, rfl⟩ := hrel.st
    clear hrel
    by_cases hlt : (k : Int) - 1 ≤ n
    · have hltd : decide ((k : Int) - 1 ≤ n) = true := decide_eq_true hlt
      have hn6 : n ≤ 6 := by rw [← hn.out]; exact HC.out.2
      have hw1 : wrap64 (k : Int) = (k : Int) := by unfold wrap64; omega
      obtain ⟨st, hst⟩ : ∃ st, Hid (S.state ((k : Int) - 1) = st) := ⟨_, Lib.hid rfl⟩
      have hne : (st != st) = false := by simp
      have HL := Lib.hid (And.intro hlt hk)
      clear hlt hk
      go_wp2_with (first
        | (go_at_call 16; refine (HA.out _).mono ?_; rintro e w' ⟨rfl, rfl⟩; rw [hst.out])
        | (go_at_call 43; refine (HB.out _).mono ?_; rintro e w' ⟨rfl, rfl⟩; rw [hst.out]))
      go_roundw
      case rel => exact ⟨⟨rfl, k + 1, by have := HL.out; omega, congrArg (Value.int .i64) (by omega)⟩⟩
      case measure => rw [hw1]; exact meas_al HL.out.1
    have hltd : decide ((k : Int) - 1 ≤ n) = false := decide_eq_false hlt
    clear hlt hk HA HB
    have e := hn.out
    clear hn
    subst e
    have hpl := places_any S.cfg _ wr (H2.out.2.perm (show _ = shelfAt SH p S * (rshAt RS q S * (pts B (.cells (cfgA S.cfg) TCfg (0, 0)) * F)) from by ac_rfl)) ⟨by have := HC.out; omega, HC.out.2⟩ (fun j hj => ⟨by have h := HWF.out.cfg; have := h.log; have := h.image; have := h.rows; unfold szN; split <;> (try split) <;> (try split) <;> omega, HD.out.2 j hj⟩)
    have HPL := Lib.hid hpl
    have HH := Lib.hid H2.out.1
    clear hpl H2
    go_upto_region 10 with (go_at_call 25; refine HPL.out.mono ?_; rintro e w3 ⟨v, rfl, h3⟩)
    clear HPL c0 c1 c2 c3 c4 c5 hltd
    have H4 := Lib.hid (show Same w w3 ∧ Sat w3 (shelfAt SH p S * (rshAt RS q S * (ownAt TPl 3 v (plsL S.cfg S.cfg.disks.toNat).length (plsC (plsL S.cfg S.cfg.disks.toNat)) * (pts B (.cells (cfgA S.cfg) TCfg (0, 0)) * F)))) from ⟨HH.out.trans h3.out.1, h3.out.2.1.perm (by ac_rfl)⟩)
    have HLN := Lib.hid (show (plsL S.cfg S.cfg.disks.toNat).length ≤ 600 from by have h1 := h3.out.2.2; have h2 := HC.out; omega)
    clear h3 HH
    generalize plsL S.cfg S.cfg.disks.toNat = L at H4 HLN
    obtain ⟨n, hn⟩ : ∃ n, Hid (L.length = n) := ⟨_, Lib.hid rfl⟩
    rw [hn.out] at H4 HLN
    obtain ⟨ao, cap, rfl⟩ := ownAt_slice (H4.out.2.perm (show _ = ownAt TPl 3 v n (plsC L) * (shelfAt SH p S * (rshAt RS q S * (pts B (.cells (cfgA S.cfg) TCfg (0, 0)) * F))) from by ac_rfl))
    go_upto_region 11 with (fail)
    go_loopw [8] (fun i wr => AlkB w p q S F B (.slice ao n cap) n L i wr) (fun i _ => n - (intOf i).toNat)
    case atStart => exact ⟨0, Nat.zero_le _, rfl, H4.out⟩
    case round =>
      clear H4
      obtain ⟨k, hk, rfl, H4⟩ := hrel.st
      clear hrel
      have HK := Lib.hid hk
      have hln := HLN.out
      by_cases hlt : k < n
      · have hltd : decide ((k : Int) < (n : Int)) = true := decide_eq_true (by omega)
        have hki : (k : Int) < (n : Int) := by omega
        have hk0 : (0 : Int) ≤ (k : Int) := by omega
        have hk6 : (k : Int) ≤ 600 := by omega
        have hw1 : IntKind.i64.wrap ((k : Int) + 1) = (k : Int) + 1 := IntWalk.i64_in _ (by omega)
        obtain ⟨a, ha⟩ : ∃ a, L[k]? = some a := ⟨_, List.getElem?_eq_getElem (by rw [hn.out]; exact hlt)⟩
        have hrow := fun (w' : World) (h : Sat w' (shelfAt SH p S * (rshAt RS q S * (ownAt TPl 3 (.slice ao n cap) n (plsC L) * (pts B (.cells (cfgA S.cfg) TCfg (0, 0)) * F))))) => pls_cells (T := TPl) hn.out (h.perm (show _ = ownAt TPl 3 (.slice ao n cap) n (plsC L) * (shelfAt SH p S * (rshAt RS q S * (pts B (.cells (cfgA S.cfg) TCfg (0, 0)) * F))) from by ac_rfl)) ha
        have HROW := Lib.hid hrow
        obtain ⟨g, rfl, d0, d1, d2⟩ := hrow _ H4.out.2
        obtain ⟨pk, hpk⟩ : ∃ pk, Hid (S.peek a = pk) := ⟨_, Lib.hid rfl⟩
        obtain ⟨ps, pb⟩ := pk
        have HP := Lib.hid (fun (w' : World) (h : Sat w' (shelfAt SH p S * (rshAt RS q S * (ownAt TPl 3 (.slice (some ⟨g, 0, none⟩) n cap) n (plsC L) * (pts B (.cells (cfgA S.cfg) TCfg (0, 0)) * F))))) => peek_any p S _ a w' h)
        have HQ := Lib.hid (fun (w' : World) (h : Sat w' (shelfAt SH p S * (rshAt RS q S * (ownAt TPl 3 (.slice (some ⟨g, 0, none⟩) n cap) n (plsC L) * (pts B (.cells (cfgA S.cfg) TCfg (0, 0)) * F))))) => rpeek_any q S _ a w' (h.perm (show _ = rshAt RS q S * (shelfAt SH p S * (ownAt TPl 3 (.slice (some ⟨g, 0, none⟩) n cap) n (plsC L) * (pts B (.cells (cfgA S.cfg) TCfg (0, 0)) * F))) from by ac_rfl)))
        have hq1 : ((strB ps).data == (strB ps).data) = true := by simp
        have hq2 : (pb != pb) = false := by simp
        clear hlt hk hrow hln
        go_upto_region 14 with (go_at_call 12; refine (HP.out _ H4.out.2).mono ?_; rintro e w5 ⟨rfl, h5⟩; rw [hpk.out]; replace H4 := Lib.hid (And.intro (H4.out.1.trans h5.1) h5.2); clear h5 d0 d1 d2)
        obtain ⟨g', hgg, d0, d1, d2⟩ := HROW.out _ H4.out.2
        obtain rfl : g' = g := by simpa using hgg.symm
        go_upto_region 15 with (go_at_call 13; refine (HQ.out _ H4.out.2).mono ?_; rintro e w6 ⟨rfl, h6⟩; rw [hpk.out]; replace H4 := Lib.hid (And.intro (H4.out.1.below h6.out) (H4.out.2.below h6.out)); clear h6 d0 d1 d2)
        go_wp2
        go_roundw
        case rel => exact ⟨⟨k + 1, by have := hki; omega, rfl, H4.out⟩⟩
        case measure => simp only [intOf]; omega
      · have hltd : decide (k < n) = false := decide_eq_false (by omega)
        clear hlt hk hln
        go_wp2
        go_ret
        exact ⟨rfl, H4.out.1, (H4.out.2.perm (show _ = ownAt TPl 3 (.slice ao n cap) n (plsC L) * (pts B (.cells (cfgA S.cfg) TCfg (0, 0)) * (shelfAt SH p S * (rshAt RS q S * F))) from by ac_rfl)).right.right⟩
end Go.Proofs.Ytogmkbhbmmgidaa
