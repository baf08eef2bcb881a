import Derived.Test.YtmcclbiaoeilkaaGreatP24
import Derived.Test.YtmcclbiaoeilkaaGreatP21
/- Part 25 of a proof; the last part says what is proved. -/
namespace Go.Proofs.YtmcclbiaoeilkaaGreat
open Go.RowKit Go.Sl Go.ChangeMaps
def SvOut (p : Nat) (F : HProp) (r : ShelfM × Int × Int) (w : World) (e : Ending) (w' : World) : Prop := e = .returned (.tuple #[.int .i64 r.2.1, .int .i64 r.2.2]) ∧ Hid (Same w w' ∧ Sat w' (shelfAt SH p r.1 * F))
theorem save_bits (ge gc sq : Int) (im : List UInt8) : saveBad ⟨⟨ge, gc⟩, sq, im⟩ ↔ (sq < 0 ∨ wordM ge = false ∨ wordM gc = false ∨ (ge = 0 ∧ gc = 0)) := by
  unfold saveBad genOK wordM
  have hz : (⟨ge, gc⟩ : GenM) ≠ g0 ↔ ¬ (ge = 0 ∧ gc = 0) := by
    rw [show g0 = (⟨0, 0⟩ : GenM) from rfl]; simp
  simp only [hz, Bool.and_eq_false_iff, decide_eq_false_iff_not]
  omega
theorem sv_cells {w : World} {cB p : Nat} {S : ShelfM} {ge gc sq : Int} {im : List UInt8} {F : HProp} (h : Sat w (shelfAt SH p S * (pts cB (.cells #[.int .i64 ge, .int .i64 gc, .int .i64 sq, .string (strB im)] TCk (0, 0)) * F))) : w.cell? ⟨cB, 0, none⟩ = some (.int .i64 ge) ∧ w.cell? ⟨cB, 1, none⟩ = some (.int .i64 gc) ∧ w.cell? ⟨cB, 2, none⟩ = some (.int .i64 sq) ∧ w.cell? ⟨cB, 3, none⟩ = some (.string (strB im)) ∧ cB < w.heap.size :=
  ⟨cells_at h.right.block 0, cells_at h.right.block 1, cells_at h.right.block 2, cells_at h.right.block 3, h.right.lt⟩
theorem sv_end {w W : World} {cB p : Nat} {S : ShelfM} {A : Array Value} {F : HProp} (h1 : Same w W) (h2 : Sat W (shelfAt SH p S * (pts cB (.cells A TCk (0, 0)) * F))) : Same w W ∧ Sat W (shelfAt SH p S * F) :=
  ⟨h1, (h2.perm (show _ = pts cB (.cells A TCk (0, 0)) * (shelfAt SH p S * F) from by ac_rfl)).right⟩
set_option maxRecDepth 20000 in
set_option maxHeartbeats 4000000 in
theorem save_b1 (p : Nat) (S : ShelfM) (F : HProp) (ge gc sq : Int) (im : List UInt8) (hs : decide (sq < 0) = true) (w : World) (hS : Sat w (shelfAt SH p S * F)) :
    Calls Tryz.prog 10 #[.pointer (some ⟨p, 0, none⟩), .agg #[.int .i64 ge, .int .i64 gc, .int .i64 sq, .string (strB im)]] w (SvOut p F (S, 0, 1) w) := by
  have HWE := Lib.hid (fun W => word_any ge W)
  have HWC := Lib.hid (fun W => word_any gc W)
  have H1 := Lib.hid (And.intro ((Same.refl w).alloc (.cells #[.int .i64 ge, .int .i64 gc, .int .i64 sq, .string (strB im)] TCk)) ((hS.alloc (.cells #[.int .i64 ge, .int .i64 gc, .int .i64 sq, .string (strB im)] TCk)).perm (show _ = shelfAt SH p S * (pts w.heap.size (.cells #[.int .i64 ge, .int .i64 gc, .int .i64 sq, .string (strB im)] TCk (0, 0)) * F) from by ac_rfl)))
  clear hS
  go_enter Tryz.func10, Tryz.ntmps10
  go_upto_region 1 with (fail)
  generalize w.alloc (.cells #[.int .i64 ge, .int .i64 gc, .int .i64 sq, .string (strB im)] TCk) = w1 at H1 ⊢
  generalize w.heap.size = cB at H1 ⊢
  obtain ⟨c0, c1, c2, c3, lc⟩ := sv_cells H1.out.2
  go_wp2_with (first
      | (go_at_call 34; (with_reducible refine (HWE.out _).mono ?_); rintro e w2 ⟨rfl, rfl⟩)
      | (go_at_call 34; (with_reducible refine (HWC.out _).mono ?_); rintro e w2 ⟨rfl, rfl⟩))
  go_ret2
  exact ⟨rfl, sv_end H1.out.1 H1.out.2⟩
set_option maxRecDepth 20000 in
set_option maxHeartbeats 4000000 in
theorem save_b2 (p : Nat) (S : ShelfM) (F : HProp) (ge gc sq : Int) (im : List UInt8) (hs : decide (sq < 0) = false) (he : wordM ge = false) (w : World) (hS : Sat w (shelfAt SH p S * F)) :
    Calls Tryz.prog 10 #[.pointer (some ⟨p, 0, none⟩), .agg #[.int .i64 ge, .int .i64 gc, .int .i64 sq, .string (strB im)]] w (SvOut p F (S, 0, 1) w) := by
  have HWE := Lib.hid (show ∀ (W : World), Calls Tryz.prog 34 #[.int .i64 ge] W fun e w' => e = .returned (.bool false) ∧ W = w' from fun W => by rw [← he]; exact word_any ge W)
  have HWC := Lib.hid (fun W => word_any gc W)
  have H1 := Lib.hid (And.intro ((Same.refl w).alloc (.cells #[.int .i64 ge, .int .i64 gc, .int .i64 sq, .string (strB im)] TCk)) ((hS.alloc (.cells #[.int .i64 ge, .int .i64 gc, .int .i64 sq, .string (strB im)] TCk)).perm (show _ = shelfAt SH p S * (pts w.heap.size (.cells #[.int .i64 ge, .int .i64 gc, .int .i64 sq, .string (strB im)] TCk (0, 0)) * F) from by ac_rfl)))
  clear hS
  go_enter Tryz.func10, Tryz.ntmps10
  go_upto_region 1 with (fail)
  generalize w.alloc (.cells #[.int .i64 ge, .int .i64 gc, .int .i64 sq, .string (strB im)] TCk) = w1 at H1 ⊢
  generalize w.heap.size = cB at H1 ⊢
  obtain ⟨c0, c1, c2, c3, lc⟩ := sv_cells H1.out.2
  go_wp2_with (first
      | (go_at_call 34; (with_reducible refine (HWE.out _).mono ?_); rintro e w2 ⟨rfl, rfl⟩)
      | (go_at_call 34; (with_reducible refine (HWC.out _).mono ?_); rintro e w2 ⟨rfl, rfl⟩))
  go_ret2
  exact ⟨rfl, sv_end H1.out.1 H1.out.2⟩
set_option maxRecDepth 20000 in
set_option maxHeartbeats 4000000 in
theorem save_b3 (p : Nat) (S : ShelfM) (F : HProp) (ge gc sq : Int) (im : List UInt8) (hs : decide (sq < 0) = false) (he : wordM ge = true) (hc : wordM gc = false) (w : World) (hS : Sat w (shelfAt SH p S * F)) :
    Calls Tryz.prog 10 #[.pointer (some ⟨p, 0, none⟩), .agg #[.int .i64 ge, .int .i64 gc, .int .i64 sq, .string (strB im)]] w (SvOut p F (S, 0, 1) w) := by
  have HWE := Lib.hid (show ∀ (W : World), Calls Tryz.prog 34 #[.int .i64 ge] W fun e w' => e = .returned (.bool true) ∧ W = w' from fun W => by rw [← he]; exact word_any ge W)
  have HWC := Lib.hid (show ∀ (W : World), Calls Tryz.prog 34 #[.int .i64 gc] W fun e w' => e = .returned (.bool false) ∧ W = w' from fun W => by rw [← hc]; exact word_any gc W)
  have H1 := Lib.hid (And.intro ((Same.refl w).alloc (.cells #[.int .i64 ge, .int .i64 gc, .int .i64 sq, .string (strB im)] TCk)) ((hS.alloc (.cells #[.int .i64 ge, .int .i64 gc, .int .i64 sq, .string (strB im)] TCk)).perm (show _ = shelfAt SH p S * (pts w.heap.size (.cells #[.int .i64 ge, .int .i64 gc, .int .i64 sq, .string (strB im)] TCk (0, 0)) * F) from by ac_rfl)))
  clear hS
  go_enter Tryz.func10, Tryz.ntmps10
  go_upto_region 1 with (fail)
  generalize w.alloc (.cells #[.int .i64 ge, .int .i64 gc, .int .i64 sq, .string (strB im)] TCk) = w1 at H1 ⊢
  generalize w.heap.size = cB at H1 ⊢
  obtain ⟨c0, c1, c2, c3, lc⟩ := sv_cells H1.out.2
  go_wp2_with (first
      | (go_at_call 34; (with_reducible refine (HWE.out _).mono ?_); rintro e w2 ⟨rfl, rfl⟩)
      | (go_at_call 34; (with_reducible refine (HWC.out _).mono ?_); rintro e w2 ⟨rfl, rfl⟩))
  go_ret2
  exact ⟨rfl, sv_end H1.out.1 H1.out.2⟩
set_option maxRecDepth 20000 in
set_option maxHeartbeats 4000000 in
theorem save_b4 (p : Nat) (S : ShelfM) (F : HProp) (ge gc sq : Int) (im : List UInt8) (hs : decide (sq < 0) = false) (he : wordM ge = true) (hc : wordM gc = true) (hz : (ge == 0) = true) (hz2 : (gc == 0) = true) (w : World) (hS : Sat w (shelfAt SH p S * F)) :
    Calls Tryz.prog 10 #[.pointer (some ⟨p, 0, none⟩), .agg #[.int .i64 ge, .int .i64 gc, .int .i64 sq, .string (strB im)]] w (SvOut p F (S, 0, 1) w) := by
  have HWE := Lib.hid (show ∀ (W : World), Calls Tryz.prog 34 #[.int .i64 ge] W fun e w' => e = .returned (.bool true) ∧ W = w' from fun W => by rw [← he]; exact word_any ge W)
  have HWC := Lib.hid (show ∀ (W : World), Calls Tryz.prog 34 #[.int .i64 gc] W fun e w' => e = .returned (.bool true) ∧ W = w' from fun W => by rw [← hc]; exact word_any gc W)
  have H1 := Lib.hid (And.intro ((Same.refl w).alloc (.cells #[.int .i64 ge, .int .i64 gc, .int .i64 sq, .string (strB im)] TCk)) ((hS.alloc (.cells #[.int .i64 ge, .int .i64 gc, .int .i64 sq, .string (strB im)] TCk)).perm (show _ = shelfAt SH p S * (pts w.heap.size (.cells #[.int .i64 ge, .int .i64 gc, .int .i64 sq, .string (strB im)] TCk (0, 0)) * F) from by ac_rfl)))
  clear hS
  go_enter Tryz.func10, Tryz.ntmps10
  go_upto_region 1 with (fail)
  generalize w.alloc (.cells #[.int .i64 ge, .int .i64 gc, .int .i64 sq, .string (strB im)] TCk) = w1 at H1 ⊢
  generalize w.heap.size = cB at H1 ⊢
  obtain ⟨c0, c1, c2, c3, lc⟩ := sv_cells H1.out.2
  go_wp2_with (first
      | (go_at_call 34; (with_reducible refine (HWE.out _).mono ?_); rintro e w2 ⟨rfl, rfl⟩)
      | (go_at_call 34; (with_reducible refine (HWC.out _).mono ?_); rintro e w2 ⟨rfl, rfl⟩))
  go_ret2
  exact ⟨rfl, sv_end H1.out.1 H1.out.2⟩
set_option maxRecDepth 20000 in
set_option maxHeartbeats 4000000 in
theorem save_limit (p : Nat) (S : ShelfM) (F : HProp) (ge gc sq : Int) (im : List UInt8) (hs : decide (sq < 0) = false) (he : wordM ge = true) (hc : wordM gc = true) (hz : (ge == 0) = false ∨ ((ge == 0) = true ∧ (gc == 0) = false)) (hl : decide (capM S.cfg < (im.length : Int)) = true) (w : World) (hS : Sat w (shelfAt SH p S * F)) :
    Calls Tryz.prog 10 #[.pointer (some ⟨p, 0, none⟩), .agg #[.int .i64 ge, .int .i64 gc, .int .i64 sq, .string (strB im)]] w (SvOut p F (S, 0, 2) w) := by
  have HWE := Lib.hid (show ∀ (W : World), Calls Tryz.prog 34 #[.int .i64 ge] W fun e w' => e = .returned (.bool true) ∧ W = w' from fun W => by rw [← he]; exact word_any ge W)
  have HWC := Lib.hid (show ∀ (W : World), Calls Tryz.prog 34 #[.int .i64 gc] W fun e w' => e = .returned (.bool true) ∧ W = w' from fun W => by rw [← hc]; exact word_any gc W)
  have hwf := shelfAt_wf hS
  obtain ⟨mx, hmx⟩ : ∃ mx, capM S.cfg = mx := ⟨_, rfl⟩
  rw [hmx] at hl
  have hci := hwf.cfg.image
  have HCFG := Lib.hid (show ∀ (W : World) (X : HProp), Sat W (shelfAt SH p S * X) → Calls Tryz.prog 26 #[.pointer (some ⟨p, 0, none⟩)] W fun e w' => e = .returned (.agg (cfgA S.cfg)) ∧ Below W.heap.size W w' from fun W X h => config_any p S X W h)
  have HCAP := Lib.hid (show ∀ (W : World), Calls Tryz.prog 22 #[.agg (cfgA S.cfg)] W fun e w' => e = .returned (.int .i64 mx) ∧ Below W.heap.size W w' from fun W => by rw [← hmx]; exact ckcap_any S.cfg hci.1 hci.2 W)
  clear hci hmx hwf
  have hsz : (strB im).size = im.length := strB_size im
  have H1 := Lib.hid (And.intro ((Same.refl w).alloc (.cells #[.int .i64 ge, .int .i64 gc, .int .i64 sq, .string (strB im)] TCk)) ((hS.alloc (.cells #[.int .i64 ge, .int .i64 gc, .int .i64 sq, .string (strB im)] TCk)).perm (show _ = shelfAt SH p S * (pts w.heap.size (.cells #[.int .i64 ge, .int .i64 gc, .int .i64 sq, .string (strB im)] TCk (0, 0)) * F) from by ac_rfl)))
  clear hS
  go_enter Tryz.func10, Tryz.ntmps10
  go_upto_region 1 with (fail)
  generalize w.alloc (.cells #[.int .i64 ge, .int .i64 gc, .int .i64 sq, .string (strB im)] TCk) = w1 at H1 ⊢
  generalize w.heap.size = cB at H1 ⊢
  obtain ⟨c0, c1, c2, c3, lc⟩ := sv_cells H1.out.2
  rcases hz with hz | ⟨hz, hz2⟩
  all_goals
    go_upto_region 3 with (first
      | (go_at_call 34; (with_reducible refine (HWE.out _).mono ?_); rintro e w2 ⟨rfl, rfl⟩)
      | (go_at_call 34; (with_reducible refine (HWC.out _).mono ?_); rintro e w2 ⟨rfl, rfl⟩))
    refine reg_begin (fun w' => w'.cell? ⟨cB, 3, none⟩ = some (.string (strB im))) (by kernel_rfl) ?_
    replace H1 := Lib.hid (And.intro H1.out.1.drew H1.out.2.drew)
    generalize w1.drew = w2 at H1 ⊢
    clear c0 c1 c2 c3 lc HWE HWC
    have hS0 := (sv_cells H1.out.2).2.2.2.1
    (apply reg_take 0 rfl rfl (by decide +kernel) rfl); (intro w' h3'; go_simp; rfl); exact hS0; simp only [List.setIfInBounds_toArray, List.set_cons_succ, List.set_cons_zero]
    (apply reg_take 1 rfl rfl (by decide +kernel) rfl); (intro w' h3'; go_simp; rfl); exact hS0; simp only [List.setIfInBounds_toArray, List.set_cons_succ, List.set_cons_zero]
    (apply reg_take 2 rfl rfl (by decide +kernel) rfl); (intro w' h3'; go_simp; rfl); exact hS0; simp only [List.setIfInBounds_toArray, List.set_cons_succ, List.set_cons_zero]
    (apply reg_take 3 rfl rfl (by decide +kernel) rfl); (intro w' h3'; go_simp; rfl); exact hS0; simp only [List.setIfInBounds_toArray, List.set_cons_succ, List.set_cons_zero]
    refine reg_call 4 rfl rfl (by decide +kernel) rfl (f := 26) (args := #[.pointer (some ⟨p, 0, none⟩)]) (R := fun v w' => v = .agg (cfgA S.cfg) ∧ Hid (Below w2.heap.size w2 w')) (by kernel_rfl) ((HCFG.out w2 _ H1.out.2).mono fun e w' h => ⟨_, h.1, rfl, h.2⟩) ?_
    rintro _ w3 ⟨rfl, hb⟩
    replace H1 := Lib.hid (And.intro (H1.out.1.below hb.out) (H1.out.2.below hb.out))
    replace hS0 := (sv_cells H1.out.2).2.2.2.1
    refine ⟨hS0, ?_⟩
    simp only [List.setIfInBounds_toArray, List.set_cons_succ, List.set_cons_zero]
    refine reg_call 5 rfl rfl (by decide +kernel) rfl (f := 22) (args := #[.agg (cfgA S.cfg)]) (R := fun v w' => v = .int .i64 mx ∧ Hid (Below w3.heap.size w3 w')) (by kernel_rfl) ((HCAP.out w3).mono fun e w' h => ⟨_, h.1, rfl, h.2⟩) ?_
    rintro _ w4 ⟨rfl, hb2⟩
    replace H1 := Lib.hid (And.intro (H1.out.1.below hb2.out) (H1.out.2.below hb2.out))
    replace hS0 := (sv_cells H1.out.2).2.2.2.1
    refine ⟨hS0, ?_⟩
    simp only [List.setIfInBounds_toArray, List.set_cons_succ, List.set_cons_zero]
    (apply reg_take 6 rfl rfl (by decide +kernel) rfl); (intro w' _; go_simp; rfl); exact hS0; simp only [List.setIfInBounds_toArray, List.set_cons_succ, List.set_cons_zero]
    (apply reg_take 7 rfl rfl (by decide +kernel) rfl); (intro w' _; go_simp; rfl); exact hS0; simp only [List.setIfInBounds_toArray, List.set_cons_succ, List.set_cons_zero]
    refine reg_done (by decide +kernel) ?_
    clear hS0 hb hb2 HCAP
    go_wp2
    go_ret2
    exact ⟨rfl, sv_end H1.out.1 H1.out.2⟩
set_option maxRecDepth 20000 in
set_option maxHeartbeats 4000000 in
theorem save_off (p : Nat) (S : ShelfM) (F : HProp) (ge gc sq : Int) (im : List UInt8) (hs : decide (sq < 0) = false) (he : wordM ge = true) (hc : wordM gc = true) (hz : (ge == 0) = false ∨ ((ge == 0) = true ∧ (gc == 0) = false)) (hl : decide (capM S.cfg < (im.length : Int)) = false) (hoff : S.off = true) (w : World) (hS : Sat w (shelfAt SH p S * F)) :
    Calls Tryz.prog 10 #[.pointer (some ⟨p, 0, none⟩), .agg #[.int .i64 ge, .int .i64 gc, .int .i64 sq, .string (strB im)]] w (SvOut p F (S, 0, 14) w) := by
  have HWE := Lib.hid (show ∀ (W : World), Calls Tryz.prog 34 #[.int .i64 ge] W fun e w' => e = .returned (.bool true) ∧ W = w' from fun W => by rw [← he]; exact word_any ge W)
  have HWC := Lib.hid (show ∀ (W : World), Calls Tryz.prog 34 #[.int .i64 gc] W fun e w' => e = .returned (.bool true) ∧ W = w' from fun W => by rw [← hc]; exact word_any gc W)
  have hwf := shelfAt_wf hS
  obtain ⟨mx, hmx⟩ : ∃ mx, capM S.cfg = mx := ⟨_, rfl⟩
  rw [hmx] at hl
  have hci := hwf.cfg.image
  have HCFG := Lib.hid (show ∀ (W : World) (X : HProp), Sat W (shelfAt SH p S * X) → Calls Tryz.prog 26 #[.pointer (some ⟨p, 0, none⟩)] W fun e w' => e = .returned (.agg (cfgA S.cfg)) ∧ Below W.heap.size W w' from fun W X h => config_any p S X W h)
  have HCAP := Lib.hid (show ∀ (W : World), Calls Tryz.prog 22 #[.agg (cfgA S.cfg)] W fun e w' => e = .returned (.int .i64 mx) ∧ Below W.heap.size W w' from fun W => by rw [← hmx]; exact ckcap_any S.cfg hci.1 hci.2 W)
  clear hci hmx hwf
  have hsz : (strB im).size = im.length := strB_size im
  have HUP := Lib.hid (show ∀ (W : World) (X : HProp), Sat W (shelfAt SH p S * X) → Calls Tryz.prog 35 #[.pointer (some ⟨p, 0, none⟩)] W fun e w' => e = .returned (.bool (!S.off)) ∧ W = w' from fun W X h => up_any p S X W h)
  rw [hoff] at HUP
  have H1 := Lib.hid (And.intro ((Same.refl w).alloc (.cells #[.int .i64 ge, .int .i64 gc, .int .i64 sq, .string (strB im)] TCk)) ((hS.alloc (.cells #[.int .i64 ge, .int .i64 gc, .int .i64 sq, .string (strB im)] TCk)).perm (show _ = shelfAt SH p S * (pts w.heap.size (.cells #[.int .i64 ge, .int .i64 gc, .int .i64 sq, .string (strB im)] TCk (0, 0)) * F) from by ac_rfl)))
  clear hS
  go_enter Tryz.func10, Tryz.ntmps10
  go_upto_region 1 with (fail)
  generalize w.alloc (.cells #[.int .i64 ge, .int .i64 gc, .int .i64 sq, .string (strB im)] TCk) = w1 at H1 ⊢
  generalize w.heap.size = cB at H1 ⊢
  obtain ⟨c0, c1, c2, c3, lc⟩ := sv_cells H1.out.2
  rcases hz with hz | ⟨hz, hz2⟩
  all_goals
    go_upto_region 3 with (first
      | (go_at_call 34; (with_reducible refine (HWE.out _).mono ?_); rintro e w2 ⟨rfl, rfl⟩)
      | (go_at_call 34; (with_reducible refine (HWC.out _).mono ?_); rintro e w2 ⟨rfl, rfl⟩))
    refine reg_begin (fun w' => w'.cell? ⟨cB, 3, none⟩ = some (.string (strB im))) (by kernel_rfl) ?_
    replace H1 := Lib.hid (And.intro H1.out.1.drew H1.out.2.drew)
    generalize w1.drew = w2 at H1 ⊢
    clear c0 c1 c2 c3 lc HWE HWC
    have hS0 := (sv_cells H1.out.2).2.2.2.1
    (apply reg_take 0 rfl rfl (by decide +kernel) rfl); (intro w' h3'; go_simp; rfl); exact hS0; simp only [List.setIfInBounds_toArray, List.set_cons_succ, List.set_cons_zero]
    (apply reg_take 1 rfl rfl (by decide +kernel) rfl); (intro w' h3'; go_simp; rfl); exact hS0; simp only [List.setIfInBounds_toArray, List.set_cons_succ, List.set_cons_zero]
    (apply reg_take 2 rfl rfl (by decide +kernel) rfl); (intro w' h3'; go_simp; rfl); exact hS0; simp only [List.setIfInBounds_toArray, List.set_cons_succ, List.set_cons_zero]
    (apply reg_take 3 rfl rfl (by decide +kernel) rfl); (intro w' h3'; go_simp; rfl); exact hS0; simp only [List.setIfInBounds_toArray, List.set_cons_succ, List.set_cons_zero]
    refine reg_call 4 rfl rfl (by decide +kernel) rfl (f := 26) (args := #[.pointer (some ⟨p, 0, none⟩)]) (R := fun v w' => v = .agg (cfgA S.cfg) ∧ Hid (Below w2.heap.size w2 w')) (by kernel_rfl) ((HCFG.out w2 _ H1.out.2).mono fun e w' h => ⟨_, h.1, rfl, h.2⟩) ?_
    rintro _ w3 ⟨rfl, hb⟩
    replace H1 := Lib.hid (And.intro (H1.out.1.below hb.out) (H1.out.2.below hb.out))
    replace hS0 := (sv_cells H1.out.2).2.2.2.1
    refine ⟨hS0, ?_⟩
    simp only [List.setIfInBounds_toArray, List.set_cons_succ, List.set_cons_zero]
    refine reg_call 5 rfl rfl (by decide +kernel) rfl (f := 22) (args := #[.agg (cfgA S.cfg)]) (R := fun v w' => v = .int .i64 mx ∧ Hid (Below w3.heap.size w3 w')) (by kernel_rfl) ((HCAP.out w3).mono fun e w' h => ⟨_, h.1, rfl, h.2⟩) ?_
    rintro _ w4 ⟨rfl, hb2⟩
    replace H1 := Lib.hid (And.intro (H1.out.1.below hb2.out) (H1.out.2.below hb2.out))
    replace hS0 := (sv_cells H1.out.2).2.2.2.1
    refine ⟨hS0, ?_⟩
    simp only [List.setIfInBounds_toArray, List.set_cons_succ, List.set_cons_zero]
    (apply reg_take 6 rfl rfl (by decide +kernel) rfl); (intro w' _; go_simp; rfl); exact hS0; simp only [List.setIfInBounds_toArray, List.set_cons_succ, List.set_cons_zero]
    (apply reg_take 7 rfl rfl (by decide +kernel) rfl); (intro w' _; go_simp; rfl); exact hS0; simp only [List.setIfInBounds_toArray, List.set_cons_succ, List.set_cons_zero]
    refine reg_done (by decide +kernel) ?_
    clear hS0 hb hb2 HCAP
    go_wp2_with (go_at_call 35; refine (HUP.out w4 _ H1.out.2).mono ?_; rintro e w5 ⟨rfl, rfl⟩)
    go_ret2
    exact ⟨rfl, sv_end H1.out.1 H1.out.2⟩
end Go.Proofs.YtmcclbiaoeilkaaGreat
