import Derived.Test.YtmcclbiaoeilkaaGreatP27
import Derived.Test.YtmcclbiaoeilkaaGreatP29
import Derived.Test.YtmcclbiaoeilkaaGreatP31
import Derived.Test.YtmcclbiaoeilkaaGreatP33
import Derived.Test.YtmcclbiaoeilkaaGreatP32
/- Part 34 of a proof; the last part says what is proved. -/
section
namespace Go.Proofs.YtmcclbiaoeilkaaGreat
open Go.RowKit Go.Sl Go.ChangeMaps
def kC : CfgM := ⟨2, 1, 1, 0, 1, 3⟩
def kK : CkM := ⟨⟨1, 0⟩, 5, [97, 98, 99]⟩
theorem kC_ok : kC.ok = true := by decide +kernel
theorem kC_wf : kC.WF := ok_wf kC_ok (by decide)
theorem kK_fits : CkFits kC kK := ⟨by decide, by decide, by decide⟩
set_option maxRecDepth 100000 in
set_option maxHeartbeats 2000000 in
theorem sanity20_any (F : HProp) (w : World) (hF : Sat w F) : Calls Tryz.prog 5 #[] w fun e w' => e = .returned (.bool true) ∧ Hid (Same w w' ∧ Sat w' F) := by
  have HF := Lib.hid hF
  clear hF
  obtain ⟨hfi, hcl⟩ := new_fine kC_wf
  obtain ⟨S', e1, e2, e3⟩ := clear_save hfi hcl kK_fits
  have HE := Lib.hid (And.intro (clear_load hfi hcl) (And.intro e1 (And.intro e3 e2.cfg)))
  clear hfi hcl e1 e2 e3
  have HLD := Lib.hid (show ∀ (p : Nat) (W : World) (X : HProp), Sat W (shelfAt SH p (ShelfM.new kC) * X) → Calls Tryz.prog 14 #[.pointer (some ⟨p, 0, none⟩)] W fun e w' => e = .returned (.tuple #[.agg #[.int .i64 0, .int .i64 0, .int .i64 0, .string (strB [])], .int .i64 12]) ∧ Same W w' ∧ Sat w' (shelfAt SH p (ShelfM.new kC) * X) from fun p W X h => (load_any p _ X W h).mono fun e w' h2 => by
    unfold CkOut at h2; rw [HE.out.1] at h2; exact h2)
  have HLD2 := Lib.hid (show ∀ (p : Nat) (W : World) (X : HProp), Sat W (shelfAt SH p S' * X) → Calls Tryz.prog 14 #[.pointer (some ⟨p, 0, none⟩)] W fun e w' => e = .returned (.tuple #[.agg #[.int .i64 1, .int .i64 0, .int .i64 5, .string (strB [97, 98, 99])], .int .i64 0]) ∧ Same W w' ∧ Sat w' (shelfAt SH p S' * X) from fun p W X h => (load_any p _ X W h).mono fun e w' h2 => by
    unfold CkOut at h2; rw [HE.out.2.2.1] at h2; exact h2)
  have HSV := Lib.hid (show ∀ (p : Nat) (W : World) (X : HProp), Sat W (shelfAt SH p (ShelfM.new kC) * X) → Calls Tryz.prog 10 #[.pointer (some ⟨p, 0, none⟩), .agg #[.int .i64 1, .int .i64 0, .int .i64 5, .string (strB [97, 98, 99])]] W fun e w' => e = .returned (.tuple #[.int .i64 2, .int .i64 0]) ∧ Hid (Same W w' ∧ Sat w' (shelfAt SH p S' * X)) from fun p W X h => (save_any p _ X 1 0 5 [97, 98, 99] (by decide) W h).mono fun e w' h2 => by
    unfold SvOut at h2; rw [show saveM (ShelfM.new kC) ⟨⟨1, 0⟩, 5, [97, 98, 99]⟩ = (S', 2, 0) from HE.out.2.1] at h2; exact h2)
  have HCF := Lib.hid (show ∀ (p : Nat) (W : World) (X : HProp), Sat W (shelfAt SH p S' * X) → Calls Tryz.prog 26 #[.pointer (some ⟨p, 0, none⟩)] W fun e w' => e = .returned (.agg (cfgA kC)) ∧ Below W.heap.size W w' from fun p W X h => (config_any p S' X W h).mono fun e w' h2 => by rw [HE.out.2.2.2] at h2; exact h2)
  have HCA := Lib.hid (show ∀ (W : World), Calls Tryz.prog 22 #[.agg (cfgA kC)] W fun e w' => e = .returned (.int .i64 80) ∧ Below W.heap.size W w' from fun W => ckcap_any kC (by decide) (by decide) W)
  clear HE
  go_enter Tryz.func5, Tryz.ntmps5
  go_upto_region 2 with (go_at_call 7; refine (snew_ok kC F w HF.out kC_ok (by decide)).mono ?_; rintro e w1 ⟨p, rfl, H1⟩)
  go_upto_region 5 with (go_at_call 14; refine (HLD.out p w1 F H1.out.2).mono ?_; rintro e w2 ⟨rfl, h2⟩; replace H1 := Lib.hid (And.intro (H1.out.1.trans h2.1) h2.2); clear h2)
  replace H1 := Lib.hid (And.intro (H1.out.1.alloc (.cells #[.int .i64 0, .int .i64 0, .int .i64 0, .string (strB [])] TCk)) (H1.out.2.allocKeep (.cells #[.int .i64 0, .int .i64 0, .int .i64 0, .string (strB [])] TCk)))
  generalize w2.alloc (.cells #[.int .i64 0, .int .i64 0, .int .i64 0, .string (strB [])] TCk) = w3 at H1 ⊢
  generalize w2.heap.size = B1
  go_upto_region 6 with (fail)
  replace H1 := Lib.hid (And.intro (H1.out.1.alloc (.cells #[.int .i64 1, .int .i64 0, .int .i64 5, .string (strB [97, 98, 99])] TCk)) ((H1.out.2.alloc (.cells #[.int .i64 1, .int .i64 0, .int .i64 5, .string (strB [97, 98, 99])] TCk)).perm (show _ = shelfAt SH p (ShelfM.new kC) * (pts w3.heap.size (.cells #[.int .i64 1, .int .i64 0, .int .i64 5, .string (strB [97, 98, 99])] TCk (0, 0)) * F) from by ac_rfl)))
  change Code.wp _ _ _ _ (w3.alloc (.cells #[.int .i64 1, .int .i64 0, .int .i64 5, .string (strB [97, 98, 99])] TCk))
  generalize w3.alloc (.cells #[.int .i64 1, .int .i64 0, .int .i64 5, .string (strB [97, 98, 99])] TCk) = w4 at H1 ⊢
  generalize w3.heap.size = B2 at H1 ⊢
  have q0 := cells_at H1.out.2.right.block 0
  have q1 := cells_at H1.out.2.right.block 1
  have q2 := cells_at H1.out.2.right.block 2
  have q3 := cells_at H1.out.2.right.block 3
  go_upto_region 7 with (go_at_call 10; refine (HSV.out p w4 _ H1.out.2).mono ?_; rintro e w5 ⟨rfl, h2⟩; replace H1 := Lib.hid (And.intro (H1.out.1.trans h2.out.1) h2.out.2); clear h2 q0 q1 q2 q3)
  go_upto_region 8 with (go_at_call 14; refine (HLD2.out p w5 _ H1.out.2).mono ?_; rintro e w6 ⟨rfl, h2⟩; replace H1 := Lib.hid (And.intro (H1.out.1.trans h2.1) h2.2); clear h2)
  replace H1 := Lib.hid (And.intro (H1.out.1.alloc (.cells #[.int .i64 1, .int .i64 0, .int .i64 5, .string (strB [97, 98, 99])] TCk)) ((H1.out.2.alloc (.cells #[.int .i64 1, .int .i64 0, .int .i64 5, .string (strB [97, 98, 99])] TCk)).perm (show _ = shelfAt SH p S' * (pts B2 (.cells #[.int .i64 1, .int .i64 0, .int .i64 5, .string (strB [97, 98, 99])] TCk (0, 0)) * (pts w6.heap.size (.cells #[.int .i64 1, .int .i64 0, .int .i64 5, .string (strB [97, 98, 99])] TCk (0, 0)) * F)) from by ac_rfl)))
  generalize w6.alloc (.cells #[.int .i64 1, .int .i64 0, .int .i64 5, .string (strB [97, 98, 99])] TCk) = w7 at H1 ⊢
  generalize w6.heap.size = B3 at H1 ⊢
  have q0 := cells_at H1.out.2.right.block 0
  have q1 := cells_at H1.out.2.right.block 1
  have q2 := cells_at H1.out.2.right.block 2
  have q3 := cells_at H1.out.2.right.block 3
  have r0 := cells_at H1.out.2.right.right.block 0
  have r1 := cells_at H1.out.2.right.right.block 1
  have r2 := cells_at H1.out.2.right.right.block 2
  have r3 := cells_at H1.out.2.right.right.block 3
  go_wp2_with (first
    | (go_at_call 26; refine (HCF.out p w7 _ H1.out.2).mono ?_; rintro e w8 ⟨rfl, hb⟩; replace H1 := Lib.hid (And.intro (H1.out.1.below hb) (H1.out.2.below hb)); clear hb)
    | (go_at_call 22; refine (HCA.out w8).mono ?_; rintro e w9 ⟨rfl, hb⟩; replace H1 := Lib.hid (And.intro (H1.out.1.below hb) (H1.out.2.below hb)); clear hb))
  go_ret
  exact ⟨rfl, H1.out.1, H1.out.2.right.right.right⟩
set_option maxHeartbeats 1000000 in
theorem short_nil (c : CfgM) (F : HProp) (w : World) (hF : Sat w F) :
    Calls Tryz.prog 6 #[.agg (cfgA c), .slice none 0 0] w fun e w' => e = .returned (.bool (smallB c)) ∧ Hid (Same w w' ∧ Sat w' F) := by
  have H1 := Lib.hid (And.intro ((Same.refl w).alloc (.cells (cfgA c) TCfg)) (hF.alloc (.cells (cfgA c) TCfg)))
  have hsm := small_any c (w.alloc (.cells (cfgA c) TCfg))
  clear hF
  cases h1 : smallB c
  · rw [h1] at hsm
    clear h1
    go_enter Tryz.func6, Tryz.ntmps6
    go_wp2_with (go_at_call 27; refine hsm.mono ?_; rintro e w1 ⟨rfl, hb⟩; replace H1 := Lib.hid (And.intro (H1.out.1.below hb.out) (H1.out.2.below hb.out)); clear hb hsm)
    go_ret
    exact ⟨rfl, H1.out.1, H1.out.2.right⟩
  · rw [h1] at hsm
    clear h1
    go_enter Tryz.func6, Tryz.ntmps6
    go_wp2_with (go_at_call 27; refine hsm.mono ?_; rintro e w1 ⟨rfl, hb⟩; replace H1 := Lib.hid (And.intro (H1.out.1.below hb.out) (H1.out.2.below hb.out)); clear hb hsm)
    go_loopw [5] (fun i wr => i = .int .i64 0 ∧ wr = w1) (fun _ _ => 0)
    case atStart => exact ⟨rfl, rfl⟩
    case round =>
      obtain ⟨rfl, rfl⟩ := hrel
      go_wp2
      go_ret
      exact ⟨rfl, H1.out.1, H1.out.2.right⟩
set_option maxHeartbeats 1000000 in
theorem ready_bad (c : CfgM) (F : HProp) (w : World) (hF : Sat w F) (h : c.ok = false) :
    Calls Tryz.prog 24 #[.agg (cfgA c), .slice none 0 0] w fun e w' => e = .returned (.tuple #[.pointer none, .int .i64 0]) ∧ Hid (Same w w' ∧ Sat w' F) := by
  have H1 := Lib.hid (And.intro ((Same.refl w).alloc (.cells (cfgA c) TCfg)) (hF.alloc (.cells (cfgA c) TCfg)))
  have HOK := Lib.hid h
  clear hF h
  obtain ⟨⟨b0, b1, b2⟩, ⟨b3, b4, b5⟩, bl, br⟩ := cfg_cells H1.out.2
  go_enter Tryz.func24, Tryz.ntmps24
  go_wp2_with (go_at_call 7; refine (snew_bad c _ _ H1.out.2 HOK.out).mono ?_; rintro e w2 ⟨rfl, h2⟩; replace H1 := Lib.hid (And.intro (H1.out.1.trans h2.out.1) h2.out.2); clear h2)
  go_ret2
  exact ⟨rfl, H1.out.1, H1.out.2.right⟩
theorem zsec_lab : labP zsec = ⟨0, 0, 0⟩ ∧ labG zsec = g0 ∧ labE zsec = 7 := by
  have h : labelOK zsec = false := by
    cases h : labelOK zsec with
    | false => rfl
    | true =>
      unfold labelOK at h
      simp only [Bool.and_eq_true] at h
      exact absurd h.1.2 (by decide)
  unfold labP labG labE
  rw [h]; exact ⟨rfl, rfl, rfl⟩
theorem clear_peek {c : CfgM} {S : ShelfM} (h : FineS c S) (hz : Clear c S) {b : PlaceM} (hb : 0 ≤ S.number b) : S.peek b = (zsec, true) := by
  rw [ShelfM.peek_in h.wf hb]
  obtain ⟨k1, _⟩ := ShelfM.number_lt h.wf hb
  obtain ⟨d0, d1⟩ := ShelfM.state_in h.wf k1
  rw [h.bays] at d1
  rw [if_pos (h.st _ d0 d1)]
  have := congrFun (hz _ d0 d1) (S.number b).toNat
  unfold conL at this
  rw [this]
structure RdyD (w : World) (X : HProp) (m : Int) (n i : Value) (wr : World) : Prop where
  st : ∃ k : Nat, (k : Int) ≤ m ∧ n = .int .i64 (k : Int) ∧ i = .int .i64 (k : Int) ∧ Same w wr ∧ Sat wr X
structure RdyL (w : World) (X : HProp) (m : Nat) (i : Value) (wr : World) : Prop where
  st : ∃ k : Nat, k ≤ m ∧ i = .int .i64 (k : Int) ∧ Same w wr ∧ Sat wr X
set_option maxRecDepth 100000 in
set_option maxHeartbeats 4000000 in
theorem ready_nil (c : CfgM) (F : HProp) (w : World) (hF : Sat w F) (h1 : smallB c = true) (h2 : c.ok = true) :
    Calls Tryz.prog 24 #[.agg (cfgA c), .slice none 0 0] w fun e w' => ∃ p, e = .returned (.tuple #[.pointer (some ⟨p, 0, none⟩), .int .i64 c.disks]) ∧ ∃ S, FineS c S ∧ Clear c S ∧ Hid (Same w w' ∧ Sat w' (shelfAt SH p S * F)) := by
  have H1 := Lib.hid (And.intro ((Same.refl w).alloc (.cells (cfgA c) TCfg)) (hF.alloc (.cells (cfgA c) TCfg)))
  have hsb := small_bound h1 h2
  have HB := Lib.hid (And.intro h2 (And.intro (show c.sectors ≤ 65536 by omega) hsb))
  clear hF h1 h2 hsb
  obtain ⟨⟨b0, b1, b2⟩, ⟨b3, b4, b5⟩, bl, br⟩ := cfg_cells H1.out.2
  go_enter Tryz.func24, Tryz.ntmps24
  go_upto_region 4 with (go_at_call 7; refine (snew_ok c _ _ H1.out.2 HB.out.1 HB.out.2.1).mono ?_; rintro e w2 ⟨p, rfl, h2⟩; replace H1 := Lib.hid (And.intro (H1.out.1.trans h2.out.1) h2.out.2); clear h2 b0 b1 b2 b3 b4 b5 bl br)
  go_upto_region 5 with (fail)
  generalize w.heap.size = B at H1 ⊢
  go_loopw [8] (fun i wr => i = .int .i64 0 ∧ wr = w2) (fun _ _ => 0)
  case atStart => exact ⟨rfl, rfl⟩
  case round =>
    obtain ⟨rfl, rfl⟩ := hrel
    go_wp2_with (go_at_call 48; refine (mount_any p (ShelfM.new c) _ (.slice none 0 0) [] wr H1.out.2 (fun w' _ => IntsC.nil w') (by simp)).mono ?_; rintro e w3 ⟨rfl, h2⟩; replace H1 := Lib.hid (And.intro (H1.out.1.trans h2.out.1) h2.out.2); clear h2)
    have hw1 := shelfAt_wf H1.out.2
    have hwc : c.WF := hw1.cfg
    obtain ⟨hn1, hn2⟩ := new_fine hwc
    obtain ⟨hfi, hcl⟩ := mount_clear hn1 hn2 (fun d h0 h1 => new_dur d h0 h1) hw1
    generalize (ShelfM.new c).mount [] = S at H1 hfi hcl hw1
    have HF := Lib.hid (And.intro hfi hcl)
    obtain ⟨m, hm⟩ : ∃ m : Nat, c.disks = (m : Int) := ⟨c.disks.toNat, by have := hwc.disks; omega⟩
    have hm6 : (m : Int) ≤ 6 := by have := HB.out.2.2.1; omega
    have HM := Lib.hid (And.intro hwc hm)
    obtain ⟨⟨b0, b1, b2⟩, ⟨b3, b4, b5⟩, bl, br⟩ := cfg_cells H1.out.2.right
    rw [hm] at b0
    have HST := Lib.hid (show ∀ (W : World) (k : Nat) (X : HProp), k < m → Sat W (shelfAt SH p S * X) → Calls Tryz.prog 36 #[.pointer (some ⟨p, 0, none⟩), .int .i64 (k : Int)] W fun e w' => e = .returned (.int .i64 1) ∧ W = w' from fun W k X hk h => (state_any p S X k W h).mono fun e w' h2 => by
      rw [hfi.st k (by omega) (by omega)] at h2; exact h2)
    clear hn1 hn2 hw1 hfi hcl
    go_loopw [9, 10] (fun n i wq => RdyD w (shelfAt SH p S * (pts B (.cells (cfgA c) TCfg (0, 0)) * F)) m n i wq) (fun _ i _ => m - (intOf i).toNat)
    case atStart => exact ⟨0, by omega, rfl, rfl, H1.out.1, H1.out.2⟩
    case round =>
      obtain ⟨k, hk, rfl, rfl, hsm, hs⟩ := hrel.st
      clear hrel
      clear b0 b1 b2 b3 b4 b5 bl br H1
      have H1 := Lib.hid (And.intro hsm hs)
      obtain ⟨⟨b0, b1, b2⟩, ⟨b3, b4, b5⟩, bl, br⟩ := cfg_cells H1.out.2.right
      rw [hm] at b0
      clear hsm hs
      by_cases hlt : k < m
      case pos =>
        have hltd : decide ((k : Int) < (m : Int)) = true := decide_eq_true (by omega)
        have hk6 : (k : Int) ≤ 6 := by omega
        clear hm
        go_wp2_with (go_at_call 36; refine (HST.out wr k _ hlt H1.out.2).mono ?_; rintro e w4 ⟨rfl, rfl⟩)
        exact ⟨⟨k + 1, by omega, rfl, rfl, H1.out.1, H1.out.2⟩, by simp only [intOf]; omega⟩
      case neg =>
        obtain rfl : k = m := by omega
        have hltd : decide ((k : Int) < c.disks) = false := decide_eq_false (by omega)
        have hdd : 0 ≤ c.disks ∧ c.disks ≤ 6 := ⟨by have := HM.out.1.disks; omega, HB.out.2.2.1⟩
        have hss : ∀ j, j < 4 → 0 ≤ szN c j ∧ szN c j ≤ 24 := by
          intro j hj
          have h1 := HM.out.1.log; have h2 := HM.out.1.image; have h3 := HM.out.1.rows; have h4 := HB.out.2.2.2
          unfold CfgM.sectors at h4
          unfold szN
          split; omega
          split; omega
          split; omega
          omega
        have hpc := places_any c _ wr H1.out.2 hdd hss
        have hwf := shelfAt_wf H1.out.2
        have hpk : ∀ b ∈ plsL c c.disks.toNat, S.peek b = (zsec, true) := fun b hb => clear_peek HF.out.1 HF.out.2 (pls_number hwf (by rw [HF.out.1.cfg]; exact hb))
        have HPC := Lib.hid (And.intro hpc hpk)
        clear hpc hpk hwf hdd hss
        rw [← hm] at b0
        clear hm
        go_wp2_with (go_at_call 9; refine HPC.out.1.mono ?_; rintro e w4 ⟨lv, rfl, h2⟩; replace H1 := Lib.hid (And.intro (H1.out.1.trans h2.out.1) (And.intro h2.out.2.1 h2.out.2.2)); clear h2 b0 b1 b2 b3 b4 b5 bl br)
        obtain ⟨lao, lcap, rfl⟩ := ownAt_slice H1.out.2.1
        have HLEN := Lib.hid (show (plsL c c.disks.toNat).length ≤ 576 from by have h1 := H1.out.2.2; have h2 := HB.out.2.2.1; omega)
        replace H1 := Lib.hid (And.intro H1.out.1 H1.out.2.1)
        have HPK := Lib.hid HPC.out.2
        clear HPC HST hltd
        have HKD := Lib.hid (show (k : Int) = c.disks from HM.out.2.symm)
        generalize plsL c c.disks.toNat = L at H1 HLEN HPK ⊢
        clear HM
        generalize hR : pts B (.cells (cfgA c) TCfg (0, 0)) * F = R at H1
        have HR := Lib.hid hR
        clear hR
        go_loopw [12, 13, 14, 15, 16, 17] (fun i _ _ _ _ _ wq => RdyL w (ownAt TPl 3 (.slice lao L.length lcap) L.length (plsC L) * (shelfAt SH p S * R)) L.length i wq) (fun i _ _ _ _ _ _ => L.length - (intOf i).toNat)
        case atStart => exact ⟨0, Nat.zero_le _, rfl, H1.out.1, H1.out.2⟩
        case round =>
          clear H1
          obtain ⟨j, hj, rfl, hsm, hs⟩ := hrel.st
          clear hrel
          have H1 := Lib.hid (And.intro hsm hs)
          clear hsm hs
          by_cases hlt : j < L.length
          case pos =>
            have hltd : decide ((j : Int) < (L.length : Int)) = true := decide_eq_true (by omega)
            have hk576 : (j : Int) ≤ 576 := by have := HLEN.out; omega
            obtain ⟨b, hb⟩ : ∃ b, L[j]? = some b := ⟨_, List.getElem?_eq_getElem hlt⟩
            obtain ⟨g, gcap, hv, hcell⟩ := ownAt_cells H1.out.2 (by omega)
            obtain ⟨rfl, _, rfl⟩ : lao = some ⟨g, 0, none⟩ ∧ True ∧ lcap = gcap := by simpa using hv
            have b0 := hcell _ _ (plsC_at L j b hb 0 _ rfl); have b1 := hcell _ _ (plsC_at L j b hb 1 _ rfl); have b2 := hcell _ _ (plsC_at L j b hb 2 _ rfl); rw [Nat.add_zero] at b0
            have hpk := peek_any p S _ b wr (H1.out.2.perm (show _ = shelfAt SH p S * (ownAt TPl 3 (.slice (some ⟨g, 0, none⟩) L.length lcap) L.length (plsC L) * R) from by ac_rfl))
            rw [HPK.out b (List.mem_of_getElem? hb)] at hpk
            unfold PeekOut at hpk
            have HPE := Lib.hid hpk
            clear hpk hb hcell hv
            go_upto_region 22 with (go_at_call 16; refine HPE.out.mono ?_; rintro e w5 ⟨rfl, h2⟩; replace H1 := Lib.hid (And.intro (H1.out.1.trans h2.1) (h2.2.perm (show _ = ownAt TPl 3 (.slice (some ⟨g, 0, none⟩) L.length lcap) L.length (plsC L) * (shelfAt SH p S * R) from by ac_rfl))); clear h2 b0 b1 b2)
            have hlb : Calls Tryz.prog 82 #[.string (strB zsec)] w5 fun e w' => e = .returned (.tuple #[.agg #[.int .i64 0, .int .i64 0, .int .i64 0], .agg #[.int .i64 0, .int .i64 0], .int .i64 7]) ∧ Hid (Same w5 w' ∧ Sat w' (ownAt TPl 3 (.slice (some ⟨g, 0, none⟩) L.length lcap) L.length (plsC L) * (shelfAt SH p S * R))) :=
              (label15_any zsec rfl _ w5 H1.out.2).mono fun e w' h => by
                rw [zsec_lab.1, zsec_lab.2.1, zsec_lab.2.2] at h; exact h
            have HLB := Lib.hid hlb
            clear hlb
            go_upto_region 23 with (go_at_call 82; refine HLB.out.mono ?_; rintro e w6 ⟨rfl, h2⟩; replace H1 := Lib.hid (And.intro (H1.out.1.trans h2.out.1) h2.out.2); clear h2)
            replace H1 := Lib.hid (And.intro ((H1.out.1.alloc (.cells #[.int .i64 0, .int .i64 0, .int .i64 0] TPl)).alloc (.cells #[.int .i64 0, .int .i64 0] TGen)) ((H1.out.2.allocKeep (.cells #[.int .i64 0, .int .i64 0, .int .i64 0] TPl)).allocKeep (.cells #[.int .i64 0, .int .i64 0] TGen)))
            go_wp2
            exact ⟨⟨j + 1, by omega, rfl, H1.out.1, H1.out.2⟩, by simp only [intOf]; omega⟩
          case neg =>
            obtain rfl : j = L.length := by omega
            have hltd : decide ((L.length : Int) < (L.length : Int)) = false := decide_eq_false (by omega)
            go_wp2
            go_ret2
            exact ⟨p, by rw [HKD.out]; rfl, S, HF.out.1, HF.out.2, H1.out.1, (H1.out.2.perm (show _ = (ownAt TPl 3 (.slice lao L.length lcap) L.length (plsC L) * pts B (.cells (cfgA c) TCfg (0, 0))) * (shelfAt SH p S * F) from by rw [← HR.out]; ac_rfl)).right⟩
end Go.Proofs.YtmcclbiaoeilkaaGreat
end
section
namespace Go.Proofs.YtmcclbiaoeilkaaGreat
open Go.RowKit Go.Sl Go.ChangeMaps
def fillB (f : UInt8) (k : Nat) : UInt8 := f + UInt8.ofNat k
def fillL (f : UInt8) (n : Nat) : List UInt8 := (List.range n).map (fillB f)
theorem fillL_length (f : UInt8) (n : Nat) : (fillL f n).length = n := by simp [fillL]
theorem fillB_val (f : UInt8) (k : Nat) : ((f.toNat : Int) + (k : Int)) % 256 = ((fillB f k).toNat : Int) := by
  unfold fillB
  rw [UInt8.toNat_add, UInt8.toNat_ofNat']
  omega
structure CapSt (w : World) (f : UInt8) (N g : Nat) (X : HProp) (i : Value) (wr : World) : Prop where
  st : ∃ (k : Nat) (cur : Array Value), k ≤ N ∧ i = .int .i64 k ∧ Same w wr ∧ cur.size = N ∧ (∀ j, j < k → cur[j]? = some (.int .u8 ((fillB f j).toNat : Int))) ∧ Sat wr (pts g (.cells cur TB (0, 0)) * X)
theorem small_image {c : CfgM} (h1 : smallB c = true) : c.image ≤ 24 := by
  unfold smallB at h1
  simp only [Bool.and_eq_true, decide_eq_true_eq] at h1
  exact h1.1.1.2
set_option maxRecDepth 100000 in
set_option maxHeartbeats 4000000 in
theorem cap_law (c : CfgM) (x : Nat) (hx : x < 256) (w : World) :
    Calls Tryz.prog 4 #[.agg (cfgA c), .int .u8 (x : Int)] w fun e w' => e = .returned (.bool true) ∧ Below w.heap.size w w' := by
  obtain ⟨f, rfl⟩ : ∃ f : UInt8, x = f.toNat := ⟨UInt8.ofNat x, by simp; omega⟩
  clear hx
  have H1 := Lib.hid (And.intro ((Same.refl w).alloc (.cells (cfgA c) TCfg)) ((Sat.old w).alloc (.cells (cfgA c) TCfg)))
  go_enter Tryz.func4, Tryz.ntmps4
  go_upto_region 2 with (go_at_call 5; refine (sanity20_any _ _ H1.out.2).mono ?_; rintro e w1 ⟨rfl, h2⟩; replace H1 := Lib.hid (And.intro (H1.out.1.trans h2.out.1) h2.out.2); clear h2)
  generalize w.heap.size = B at H1 ⊢
  obtain ⟨⟨b0, b1, b2⟩, ⟨b3, b4, b5⟩, bl, br⟩ := cfg_cells H1.out.2
  cases hsm : smallB c with
  | false =>
    have HSH := Lib.hid (short_nil c _ w1 H1.out.2)
    rw [hsm] at HSH
    clear hsm
    go_wp2_with (go_at_call 6; refine HSH.out.mono ?_; rintro e w2 ⟨rfl, h2⟩; replace H1 := Lib.hid (And.intro (H1.out.1.trans h2.out.1) h2.out.2); clear h2)
    go_ret
    exact ⟨rfl, H1.out.1.below_of H1.out.2⟩
  | true =>
  have HSH := Lib.hid (short_nil c _ w1 H1.out.2)
  rw [hsm] at HSH
  go_upto_region 4 with (go_at_call 6; refine HSH.out.mono ?_; rintro e w2 ⟨rfl, h2⟩; replace H1 := Lib.hid (And.intro (H1.out.1.trans h2.out.1) h2.out.2); clear h2 HSH b0 b1 b2 b3 b4 b5 bl br)
  obtain ⟨⟨b0, b1, b2⟩, ⟨b3, b4, b5⟩, bl, br⟩ := cfg_cells H1.out.2
  cases hok : c.ok with
  | false =>
    have HRD := Lib.hid (ready_bad c _ w2 H1.out.2 hok)
    clear hok hsm
    go_wp2_with (go_at_call 24; refine HRD.out.mono ?_; rintro e w3 ⟨rfl, h2⟩; replace H1 := Lib.hid (And.intro (H1.out.1.trans h2.out.1) h2.out.2); clear h2)
    go_ret
    exact ⟨rfl, H1.out.1.below_of H1.out.2⟩
  | true =>
  have HRD := Lib.hid (ready_nil c _ w2 H1.out.2 hsm hok)
  have him := small_image hsm
  have hi1 : 1 ≤ c.image := (ok_wf hok (by have := (small_bound hsm hok).2; omega)).image.1
  have HIM := Lib.hid (And.intro him hi1)
  clear hok hsm
  go_upto_region 5 with (go_at_call 24; refine HRD.out.mono ?_; rintro e w3 ⟨p, rfl, S, hfi, hcl, h2⟩; replace H1 := Lib.hid (And.intro (H1.out.1.trans h2.out.1) h2.out.2); clear h2 HRD b0 b1 b2 b3 b4 b5 bl br)
  obtain ⟨⟨b0, b1, b2⟩, ⟨b3, b4, b5⟩, bl, br⟩ := cfg_cells H1.out.2.right
  have hcap : capM c = 40 * (c.image - 1) := by unfold capM; omega
  obtain ⟨M, hM⟩ : ∃ M : Nat, (M : Int) = capM c := ⟨(capM c).toNat, by omega⟩
  have HCA := Lib.hid (show ∀ (W : World), Calls Tryz.prog 22 #[.agg (cfgA c)] W fun e w' => e = .returned (.int .i64 (M : Int)) ∧ Below W.heap.size W w' from fun W => by rw [hM]; exact ckcap_any c hi1 (by omega) W)
  have hM9 : (M : Int) ≤ 920 := by omega
  obtain ⟨i0, hi, hz0, hz1, hz2⟩ := info_parts (show (Tryz.prog.info? TB).map (fun i => (i.zero, i.size, i.bytes)) = some (some (.int .u8 0), 1, 1) from by kernel_rfl)
  have HMM := Lib.hid (And.intro hM hcap)
  clear hM hcap him hi1
  go_upto_region 7 with (fail)
  obtain ⟨N, hN⟩ : ∃ N : Nat, (N : Int) = (M : Int) + 1 := ⟨M + 1, by omega⟩
  have HN := Lib.hid hN
  have hN9 : (N : Int) ≤ 921 := by omega
  clear hN
  go_upto_region 8 with (first
    | (go_at_call 22; refine (HCA.out w3).mono ?_; rintro e w4 ⟨rfl, hb⟩; replace H1 := Lib.hid (And.intro (H1.out.1.below hb) (H1.out.2.below hb)); clear hb b0 b1 b2 b3 b4 b5 bl br)
    | (at_make; rw [← HN.out]; refine wpList_make_full _ rfl _ _ 69 rfl w4.heap.size TB i0 (.int .u8 0) 1 Tryz.underlying69 hi hz0 hz1 .i64 .i64 _ _ N rfl rfl ?_ ?_ ?_ ?_ ?_ ?_))
  all_goals first | rfl | omega | (rw [hz2]; omega) | (unfold maxLen; omega) | exact Nat.zero_le _ | exact Nat.le_refl _ | skip
  intro w5 hown hg
  have hs2 := Sat.ownRow H1.out.2 (fun k hk => hg.block k hk (by simp)) (Nat.le_refl _) hown
  have hsm2 : Same w w5 := H1.out.1.trans ⟨hg.os, hg.tape, hg.output, hg.size⟩
  rcases ownAt_iff.1 hs2 with ⟨h, _⟩ | ⟨g, cap, cur, ⟨hv, _, _, hcs, _, _⟩, hs3⟩
  · simp at h
  injection hv with hv1 hv2 hv3
  obtain rfl : w4.heap.size = g := by simpa using hv1
  subst hv3
  have hst : CapSt w f N w4.heap.size (shelfAt SH p S * (pts B (.cells (cfgA c) TCfg (0, 0)) * old w)) (.int .i64 0) w5 := ⟨⟨0, cur, Nat.zero_le _, rfl, hsm2, by rw [hcs, Nat.mul_one], by intro j hj; omega, hs3⟩⟩
  have HST := Lib.hid hst
  have HSZ := Lib.hid (And.intro hcs hi)
  clear hst hs3 hs2 hsm2 hown hg hcs H1 hi hz0 hz1 hz2 HSZ
  generalize w4.heap.size = g at HST ⊢
  go_wp2
  go_loopw [9] (fun i wr => CapSt w f N g (shelfAt SH p S * (pts B (.cells (cfgA c) TCfg (0, 0)) * old w)) i wr) (fun i _ => N - (intOf i).toNat)
  case atStart => exact HST.out
  case round =>
    clear HST
    obtain ⟨k, cur, hk, rfl, hsm, hcz, hcells, hs⟩ := hrel.st
    clear hrel
    have HS := Lib.hid (And.intro hsm hs)
    have HC := Lib.hid hcells
    clear hsm hcells
    by_cases hlt : k < N
    case pos =>
      have hltd : decide ((k : Int) < (N : Int)) = true := decide_eq_true (by omega)
      have hki : (k : Int) ≤ 921 := by omega
      have hk0 : (0 : Int) ≤ (k : Int) := by omega
      have hkn : (k : Int) < (N : Int) := by omega
      obtain ⟨u, hu⟩ : ∃ u, cur[k]? = some u := ⟨_, Array.getElem?_eq_getElem (by omega)⟩
      have ck : wr.cell? ⟨g, k, none⟩ = some u := by rw [cells_at hs.block]; exact hu
      have fk : wr.frozen? ⟨g, k, none⟩ = false := thawed_at hs.block _
      clear hs hu
      go_wp2
      rw [fillB_val]
      refine ⟨⟨k + 1, cur.setIfInBounds k (.int .u8 ((fillB f k).toNat : Int)), by omega, rfl, HS.out.1.setCell _ _, by rw [Array.size_setIfInBounds, hcz], ?_, HS.out.2.setCell (i := k) _⟩, by simp only [intOf]; omega⟩
      intro j hj
      rw [Array.getElem?_setIfInBounds]
      split
      · rename_i hkj; subst hkj; rw [if_pos (by omega)]
      · exact HC.out j (by omega)
    case neg =>
      obtain rfl : k = N := by omega
      have hltd : decide ((k : Int) < (k : Int)) = false := decide_eq_false (by omega)
      have hby : ∀ (W : World) (X : HProp) (n cp : Nat), n ≤ k → Sat W (pts g (.cells cur TB (0, 0)) * X) → (convert 69 9 (.slice (some ⟨g, 0, none⟩) n cp)).run Tryz.prog W = .ok (.string (strB (fillL f n))) W := fun W X n cp hn hW => by
        have := run_convert_bytes_back (P := Tryz.prog) W 69 9 5 ⟨g, 0, none⟩ cp (fillL f n) Tryz.underlying69 Tryz.underlying5 Tryz.underlying9 (by
          intro j hj
          rw [fillL_length] at hj
          rw [Addr.add_mid, cells_at hW.block, Nat.zero_add, HC.out j (by omega)]
          simp [fillL])
        rw [fillL_length] at this; exact this
      have HBY := Lib.hid hby
      have H1 := Lib.hid (And.intro HS.out.1 (HS.out.2.perm (show _ = shelfAt SH p S * (pts g (.cells cur TB (0, 0)) * (pts B (.cells (cfgA c) TCfg (0, 0)) * old w)) from by ac_rfl)))
      have hcv1 := hby wr _ k k (Nat.le_refl _) hs
      clear hs hby HS HC hcz
      have HLA := Lib.hid (show ∀ (W : World) (im : List UInt8), Calls Tryz.prog 25 #[.int .u16 1, .string (strB im)] W fun e w' => e = .returned (.agg #[.int .i64 1048576, .int .i64 1, .int .i64 1, .string (strB im)]) ∧ Below W.heap.size W w' from fun W im => later_any 1 (by omega) im W)
      have HLB := Lib.hid (show ∀ (W : World) (im : List UInt8), Calls Tryz.prog 25 #[.int .u16 2, .string (strB im)] W fun e w' => e = .returned (.agg #[.int .i64 1048576, .int .i64 2, .int .i64 2, .string (strB im)]) ∧ Below W.heap.size W w' from fun W im => later_any 2 (by omega) im W)
      have HSA := Lib.hid (show ∀ (W : World) (X : HProp), Sat W (shelfAt SH p S * X) → Calls Tryz.prog 10 #[.pointer (some ⟨p, 0, none⟩), .agg #[.int .i64 1048576, .int .i64 1, .int .i64 1, .string (strB (fillL f k))]] W fun e w' => e = .returned (.tuple #[.int .i64 0, .int .i64 2]) ∧ Hid (Same W w' ∧ Sat w' (shelfAt SH p S * X)) from fun W X h => (save_any p S X 1048576 1 1 (fillL f k) (by decide) W h).mono fun e w' h2 => by
        rw [long_save (S := S) (k := ⟨⟨1048576, 1⟩, 1, fillL f k⟩) (show (0 : Int) ≤ 1 by decide) (show genOK ⟨1048576, 1⟩ = true by decide) (by rw [hfi.cfg, ← HMM.out.1, fillL_length]; have := HN.out; omega)] at h2
        exact h2)
      obtain ⟨S', e1, e2, e3⟩ := clear_save hfi hcl (k := ⟨⟨1048576, 2⟩, 2, fillL f M⟩) ⟨show (0 : Int) ≤ 2 ∧ (2 : Int) < 9223372036854775808 by decide, show genOK ⟨1048576, 2⟩ = true by decide, by rw [fillL_length, ← HMM.out.1]; omega⟩
      have HSB := Lib.hid (show ∀ (W : World) (X : HProp), Sat W (shelfAt SH p S * X) → Calls Tryz.prog 10 #[.pointer (some ⟨p, 0, none⟩), .agg #[.int .i64 1048576, .int .i64 2, .int .i64 2, .string (strB (fillL f M))]] W fun e w' => e = .returned (.tuple #[.int .i64 c.disks, .int .i64 0]) ∧ Hid (Same W w' ∧ Sat w' (shelfAt SH p S' * X)) from fun W X h => (save_any p S X 1048576 2 2 (fillL f M) (by decide) W h).mono fun e w' h2 => by
        rw [e1] at h2; exact h2)
      have HLD := Lib.hid (show ∀ (W : World) (X : HProp), Sat W (shelfAt SH p S' * X) → Calls Tryz.prog 14 #[.pointer (some ⟨p, 0, none⟩)] W fun e w' => e = .returned (.tuple #[.agg #[.int .i64 1048576, .int .i64 2, .int .i64 2, .string (strB (fillL f M))], .int .i64 0]) ∧ Same W w' ∧ Sat w' (shelfAt SH p S' * X) from fun W X h => (load_any p S' X W h).mono fun e w' h2 => by
        unfold CkOut at h2; rw [e3] at h2; exact h2)
      clear e1 e2 e3 hfi hcl
      have hk1 : 1 ≤ (k : Int) := by have := HN.out; omega
      have HKM := Lib.hid (show k - 1 = M from by have := HN.out; omega)
      go_upto_region 13 with (first
        | ((with_reducible (refine wpList_run ?_ (exec_convert ?_ ?_ hcv1) ?_)); rfl; rfl; rfl)
        | (go_at_call 25; refine (HLA.out wr _).mono ?_; rintro e w6 ⟨rfl, hb⟩; replace H1 := Lib.hid (And.intro (H1.out.1.below hb) (H1.out.2.below hb)); clear hb)
        | (go_at_call 10; refine (HSA.out w6 _ H1.out.2).mono ?_; rintro e w7 ⟨rfl, h2⟩; replace H1 := Lib.hid (And.intro (H1.out.1.trans h2.out.1) h2.out.2); clear h2))
      clear hcv1
      have hcv2 : (convert 69 9 (.slice (some ⟨g, 0, none⟩) (k - 1) k)).run Tryz.prog w7 = .ok (.string (strB (fillL f M))) w7 := by
        rw [HKM.out]
        exact HBY.out w7 _ M k (by have := HKM.out; omega) (H1.out.2.perm (show _ = pts g (.cells cur TB (0, 0)) * (shelfAt SH p S * (pts B (.cells (cfgA c) TCfg (0, 0)) * old w)) from by ac_rfl))
      go_upto_region 14 with (first
        | ((with_reducible (refine wpList_run ?_ (exec_convert ?_ ?_ hcv2) ?_)); rfl; rfl; rfl)
        | (go_at_call 25; refine (HLB.out w7 _).mono ?_; rintro e w8 ⟨rfl, hb⟩; replace H1 := Lib.hid (And.intro (H1.out.1.below hb) (H1.out.2.below hb)); clear hb))
      clear hcv2
      replace H1 := Lib.hid (And.intro (H1.out.1.alloc (.cells #[.int .i64 1048576, .int .i64 2, .int .i64 2, .string (strB (fillL f M))] TCk)) ((H1.out.2.alloc (.cells #[.int .i64 1048576, .int .i64 2, .int .i64 2, .string (strB (fillL f M))] TCk)).perm (show _ = shelfAt SH p S * (pts w8.heap.size (.cells #[.int .i64 1048576, .int .i64 2, .int .i64 2, .string (strB (fillL f M))] TCk (0, 0)) * (pts g (.cells cur TB (0, 0)) * (pts B (.cells (cfgA c) TCfg (0, 0)) * old w))) from by ac_rfl)))
      change Code.wp _ _ _ _ (w8.alloc (.cells #[.int .i64 1048576, .int .i64 2, .int .i64 2, .string (strB (fillL f M))] TCk))
      generalize w8.alloc (.cells #[.int .i64 1048576, .int .i64 2, .int .i64 2, .string (strB (fillL f M))] TCk) = w9 at H1 ⊢
      generalize w8.heap.size = B2 at H1 ⊢
      have q0 := cells_at H1.out.2.right.block 0
      have q1 := cells_at H1.out.2.right.block 1
      have q2 := cells_at H1.out.2.right.block 2
      have q3 := cells_at H1.out.2.right.block 3
      go_upto_region 15 with (go_at_call 10; refine (HSB.out w9 _ H1.out.2).mono ?_; rintro e w10 ⟨rfl, h2⟩; replace H1 := Lib.hid (And.intro (H1.out.1.trans h2.out.1) h2.out.2); clear h2 q0 q1 q2 q3)
      go_upto_region 16 with (go_at_call 14; refine (HLD.out w10 _ H1.out.2).mono ?_; rintro e w11 ⟨rfl, h2⟩; replace H1 := Lib.hid (And.intro (H1.out.1.trans h2.1) h2.2); clear h2)
      replace H1 := Lib.hid (And.intro (H1.out.1.alloc (.cells #[.int .i64 1048576, .int .i64 2, .int .i64 2, .string (strB (fillL f M))] TCk)) ((H1.out.2.alloc (.cells #[.int .i64 1048576, .int .i64 2, .int .i64 2, .string (strB (fillL f M))] TCk)).perm (show _ = shelfAt SH p S' * (pts B2 (.cells #[.int .i64 1048576, .int .i64 2, .int .i64 2, .string (strB (fillL f M))] TCk (0, 0)) * (pts w11.heap.size (.cells #[.int .i64 1048576, .int .i64 2, .int .i64 2, .string (strB (fillL f M))] TCk (0, 0)) * (pts g (.cells cur TB (0, 0)) * (pts B (.cells (cfgA c) TCfg (0, 0)) * old w)))) from by ac_rfl)))
      generalize w11.alloc (.cells #[.int .i64 1048576, .int .i64 2, .int .i64 2, .string (strB (fillL f M))] TCk) = w12 at H1 ⊢
      generalize w11.heap.size = B3 at H1 ⊢
      have q0 := cells_at H1.out.2.right.block 0
      have q1 := cells_at H1.out.2.right.block 1
      have q2 := cells_at H1.out.2.right.block 2
      have q3 := cells_at H1.out.2.right.block 3
      have r0 := cells_at H1.out.2.right.right.block 0
      have r1 := cells_at H1.out.2.right.right.block 1
      have r2 := cells_at H1.out.2.right.right.block 2
      have r3 := cells_at H1.out.2.right.right.block 3
      have s5 : w12.cell? ⟨B, 5, none⟩ = some (.int .i64 c.image) := cells_at H1.out.2.right.right.right.right.block 5
      have hi24 := HIM.out.1
      have hi1 := HIM.out.2
      have hkim : (k : Int) = 40 * (c.image - 1) + 1 := by have h1 := HN.out; have h2 := HMM.out.1; have h3 := HMM.out.2; omega
      have HKI := Lib.hid hkim
      have hw1 : IntKind.i64.wrap (c.image - 1) = c.image - 1 := IntWalk.i64_in _ (by omega)
      have hw2 : IntKind.i64.wrap (40 * (c.image - 1)) = 40 * (c.image - 1) := IntWalk.i64_in _ (by omega)
      have hw3 : IntKind.i64.wrap (40 * (c.image - 1) + 1) = 40 * (c.image - 1) + 1 := IntWalk.i64_in _ (by omega)
      have hkd : ((k : Int) == 40 * (c.image - 1) + 1) = true := beq_iff_eq.2 hkim
      clear hkim hk1 hN9 hM9
      go_wp2
      go_ret
      exact ⟨rfl, H1.out.1.below_of (H1.out.2.perm (show _ = (shelfAt SH p S' * (pts B2 (.cells #[.int .i64 1048576, .int .i64 2, .int .i64 2, .string (strB (fillL f M))] TCk (0, 0)) * (pts B3 (.cells #[.int .i64 1048576, .int .i64 2, .int .i64 2, .string (strB (fillL f M))] TCk (0, 0)) * (pts g (.cells cur TB (0, 0)) * pts B (.cells (cfgA c) TCfg (0, 0)))))) * old w from by ac_rfl))⟩
end Go.Proofs.YtmcclbiaoeilkaaGreat
end
