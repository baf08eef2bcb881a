import Derived.Test.YtogmkbhbmmgidaaGreatP25
import Derived.Test.YtogmkbhbmmgidaaGreatP23
/- Part 33 of a proof; the last part says what is proved. -/
namespace Go.Proofs.YtogmkbhbmmgidaaGreat
open Go.RowKit Go.Sl Go.ChangeMaps
set_option maxRecDepth 20000 in
set_option maxHeartbeats 4000000 in
theorem rmisdirect17_any (p : Nat) (S : ShelfM) (F : HProp) (a b : PlaceM) (w : World) (hS : Sat w (rshAt RS p S * F)) :
    Calls Tryz.prog 49 #[.pointer (some ⟨p, 0, none⟩), .agg (plA a), .agg (plA b)] w fun e w' => e = .returned (.int .i64 (S.misdirect a b).2) ∧ Hid (Same w w' ∧ Sat w' (rshAt RS p (S.misdirect a b).1 * F)) := by
  have hwf := rshAt_wf hS
  obtain ⟨d, ar, ix⟩ := a
  obtain ⟨e, er, ey⟩ := b
  have hA := (hS.alloc (.cells (plA ⟨d, ar, ix⟩) TPl)).alloc (.cells (plA ⟨e, er, ey⟩) TPl)
  simp only [World.size_alloc] at hA
  have HA := Lib.hid (show Same w ((w.alloc (.cells (plA ⟨d, ar, ix⟩) TPl)).alloc (.cells (plA ⟨e, er, ey⟩) TPl)) ∧ Sat ((w.alloc (.cells (plA ⟨d, ar, ix⟩) TPl)).alloc (.cells (plA ⟨e, er, ey⟩) TPl)) (rshAt RS p S * (pts w.heap.size (.cells (plA ⟨d, ar, ix⟩) TPl (0, 0)) * (pts (w.heap.size + 1) (.cells (plA ⟨e, er, ey⟩) TPl (0, 0)) * F))) from ⟨((Same.refl w).alloc _).alloc _, hA.perm (by ac_rfl)⟩)
  have HNB := Lib.hid (fun G W (h : Sat W (rshAt RS p S * G)) => rnumber_any p S G ⟨d, ar, ix⟩ W h)
  have HNC := Lib.hid (fun G W (h : Sat W (rshAt RS p S * G)) => rnumber_any p S G ⟨e, er, ey⟩ W h)
  have hwr : S.misdirect ⟨d, ar, ix⟩ ⟨e, er, ey⟩ = if S.number ⟨d, ar, ix⟩ < 0 ∨ (decide (0 ≤ S.number ⟨e, er, ey⟩) && decide (d = e)) = false then (S, 1) else if S.state d = 1 then (S.setDisk d ((S.disk d).misdirect (S.number ⟨d, ar, ix⟩) (S.number ⟨e, er, ey⟩)).1, ((S.disk d).misdirect (S.number ⟨d, ar, ix⟩) (S.number ⟨e, er, ey⟩)).2) else (S, 15) := rfl
  clear hS hA
  by_cases hn : S.number ⟨d, ar, ix⟩ < 0
  · rw [if_pos (.inl hn)] at hwr
    rw [hwr]
    rw [decide_eq_false (by omega : ¬ 0 ≤ S.number ⟨d, ar, ix⟩)] at HNB
    generalize numM S ⟨d, ar, ix⟩ = nm at HNB
    generalize numM S ⟨e, er, ey⟩ = nn at HNC
    generalize decide (0 ≤ S.number ⟨e, er, ey⟩) = nb at HNC
    clear hwr hn hwf
    go_enter Tryz.func49, Tryz.ntmps49
    go_upto_region 1 with (fail)
    unfold plA at HA
    generalize (w.alloc _).alloc _ = W1 at HA ⊢
    generalize w.heap.size + 1 = B2 at HA ⊢
    generalize w.heap.size = B at HA ⊢
    have hbx := HA.out.2.perm (show _ = pts B (.cells #[.int .i64 d, .int .i64 ar, .int .i64 ix] TPl (0, 0)) * (pts B2 (.cells #[.int .i64 e, .int .i64 er, .int .i64 ey] TPl (0, 0)) * (rshAt RS p S * F)) from by ac_rfl)
    have b0 : W1.cell? ⟨B, 0, none⟩ = some (.int .i64 d) := cells_at hbx.block 0
    have b1 : W1.cell? ⟨B, 1, none⟩ = some (.int .i64 ar) := cells_at hbx.block 1
    have b2 : W1.cell? ⟨B, 2, none⟩ = some (.int .i64 ix) := cells_at hbx.block 2
    have e0 : W1.cell? ⟨B2, 0, none⟩ = some (.int .i64 e) := cells_at hbx.right.block 0
    have e1 : W1.cell? ⟨B2, 1, none⟩ = some (.int .i64 er) := cells_at hbx.right.block 1
    have e2 : W1.cell? ⟨B2, 2, none⟩ = some (.int .i64 ey) := cells_at hbx.right.block 2
    clear hbx
    go_upto_region 2 with (go_at_call 81; refine (HNB.out _ W1 HA.out.2).mono ?_; rintro e' w2 ⟨rfl, hb⟩)
    clear b0 b1 b2 e0 e1 e2
    have H2 := Lib.hid (And.intro (HA.out.1.below hb) (HA.out.2.below hb))
    clear hb
    have hbx := H2.out.2.perm (show _ = pts B (.cells #[.int .i64 d, .int .i64 ar, .int .i64 ix] TPl (0, 0)) * (pts B2 (.cells #[.int .i64 e, .int .i64 er, .int .i64 ey] TPl (0, 0)) * (rshAt RS p S * F)) from by ac_rfl)
    have b0 : w2.cell? ⟨B, 0, none⟩ = some (.int .i64 d) := cells_at hbx.block 0
    have b1 : w2.cell? ⟨B, 1, none⟩ = some (.int .i64 ar) := cells_at hbx.block 1
    have b2 : w2.cell? ⟨B, 2, none⟩ = some (.int .i64 ix) := cells_at hbx.block 2
    have e0 : w2.cell? ⟨B2, 0, none⟩ = some (.int .i64 e) := cells_at hbx.right.block 0
    have e1 : w2.cell? ⟨B2, 1, none⟩ = some (.int .i64 er) := cells_at hbx.right.block 1
    have e2 : w2.cell? ⟨B2, 2, none⟩ = some (.int .i64 ey) := cells_at hbx.right.block 2
    clear hbx
    go_upto_region 3 with (go_at_call 81; refine (HNC.out _ w2 H2.out.2).mono ?_; rintro e' w3 ⟨rfl, hb⟩)
    clear b0 b1 b2 e0 e1 e2
    have H3 := Lib.hid (And.intro (H2.out.1.below hb) (H2.out.2.below hb))
    clear hb
    have hbx := H3.out.2.perm (show _ = pts B (.cells #[.int .i64 d, .int .i64 ar, .int .i64 ix] TPl (0, 0)) * (pts B2 (.cells #[.int .i64 e, .int .i64 er, .int .i64 ey] TPl (0, 0)) * (rshAt RS p S * F)) from by ac_rfl)
    have b0 : w3.cell? ⟨B, 0, none⟩ = some (.int .i64 d) := cells_at hbx.block 0
    have b1 : w3.cell? ⟨B, 1, none⟩ = some (.int .i64 ar) := cells_at hbx.block 1
    have b2 : w3.cell? ⟨B, 2, none⟩ = some (.int .i64 ix) := cells_at hbx.block 2
    have e0 : w3.cell? ⟨B2, 0, none⟩ = some (.int .i64 e) := cells_at hbx.right.block 0
    have e1 : w3.cell? ⟨B2, 1, none⟩ = some (.int .i64 er) := cells_at hbx.right.block 1
    have e2 : w3.cell? ⟨B2, 2, none⟩ = some (.int .i64 ey) := cells_at hbx.right.block 2
    clear hbx
    go_wp2
    go_ret
    exact ⟨rfl, H3.out.1, (H3.out.2.perm (show _ = pts B (.cells #[.int .i64 d, .int .i64 ar, .int .i64 ix] TPl (0, 0)) * (pts B2 (.cells #[.int .i64 e, .int .i64 er, .int .i64 ey] TPl (0, 0)) * (rshAt RS p S * F)) from by ac_rfl)).right.right⟩
  have hnm : numM S ⟨d, ar, ix⟩ = S.number ⟨d, ar, ix⟩ := by unfold numM; rw [if_neg hn]
  rw [hnm, decide_eq_true (by omega : 0 ≤ S.number ⟨d, ar, ix⟩)] at HNB
  by_cases hn2 : S.number ⟨e, er, ey⟩ < 0
  · rw [if_pos (.inr (by rw [decide_eq_false (by omega : ¬ 0 ≤ S.number ⟨e, er, ey⟩)]; rfl))] at hwr
    rw [hwr]
    rw [decide_eq_false (by omega : ¬ 0 ≤ S.number ⟨e, er, ey⟩)] at HNC
    generalize S.number ⟨d, ar, ix⟩ = nm at HNB
    generalize numM S ⟨e, er, ey⟩ = nn at HNC
    clear hwr hn hwf hn2 hnm
    go_enter Tryz.func49, Tryz.ntmps49
    go_upto_region 1 with (fail)
    unfold plA at HA
    generalize (w.alloc _).alloc _ = W1 at HA ⊢
    generalize w.heap.size + 1 = B2 at HA ⊢
    generalize w.heap.size = B at HA ⊢
    have hbx := HA.out.2.perm (show _ = pts B (.cells #[.int .i64 d, .int .i64 ar, .int .i64 ix] TPl (0, 0)) * (pts B2 (.cells #[.int .i64 e, .int .i64 er, .int .i64 ey] TPl (0, 0)) * (rshAt RS p S * F)) from by ac_rfl)
    have b0 : W1.cell? ⟨B, 0, none⟩ = some (.int .i64 d) := cells_at hbx.block 0
    have b1 : W1.cell? ⟨B, 1, none⟩ = some (.int .i64 ar) := cells_at hbx.block 1
    have b2 : W1.cell? ⟨B, 2, none⟩ = some (.int .i64 ix) := cells_at hbx.block 2
    have e0 : W1.cell? ⟨B2, 0, none⟩ = some (.int .i64 e) := cells_at hbx.right.block 0
    have e1 : W1.cell? ⟨B2, 1, none⟩ = some (.int .i64 er) := cells_at hbx.right.block 1
    have e2 : W1.cell? ⟨B2, 2, none⟩ = some (.int .i64 ey) := cells_at hbx.right.block 2
    clear hbx
    go_upto_region 2 with (go_at_call 81; refine (HNB.out _ W1 HA.out.2).mono ?_; rintro e' w2 ⟨rfl, hb⟩)
    clear b0 b1 b2 e0 e1 e2
    have H2 := Lib.hid (And.intro (HA.out.1.below hb) (HA.out.2.below hb))
    clear hb
    have hbx := H2.out.2.perm (show _ = pts B (.cells #[.int .i64 d, .int .i64 ar, .int .i64 ix] TPl (0, 0)) * (pts B2 (.cells #[.int .i64 e, .int .i64 er, .int .i64 ey] TPl (0, 0)) * (rshAt RS p S * F)) from by ac_rfl)
    have b0 : w2.cell? ⟨B, 0, none⟩ = some (.int .i64 d) := cells_at hbx.block 0
    have b1 : w2.cell? ⟨B, 1, none⟩ = some (.int .i64 ar) := cells_at hbx.block 1
    have b2 : w2.cell? ⟨B, 2, none⟩ = some (.int .i64 ix) := cells_at hbx.block 2
    have e0 : w2.cell? ⟨B2, 0, none⟩ = some (.int .i64 e) := cells_at hbx.right.block 0
    have e1 : w2.cell? ⟨B2, 1, none⟩ = some (.int .i64 er) := cells_at hbx.right.block 1
    have e2 : w2.cell? ⟨B2, 2, none⟩ = some (.int .i64 ey) := cells_at hbx.right.block 2
    clear hbx
    go_upto_region 3 with (go_at_call 81; refine (HNC.out _ w2 H2.out.2).mono ?_; rintro e' w3 ⟨rfl, hb⟩)
    clear b0 b1 b2 e0 e1 e2
    have H3 := Lib.hid (And.intro (H2.out.1.below hb) (H2.out.2.below hb))
    clear hb
    have hbx := H3.out.2.perm (show _ = pts B (.cells #[.int .i64 d, .int .i64 ar, .int .i64 ix] TPl (0, 0)) * (pts B2 (.cells #[.int .i64 e, .int .i64 er, .int .i64 ey] TPl (0, 0)) * (rshAt RS p S * F)) from by ac_rfl)
    have b0 : w3.cell? ⟨B, 0, none⟩ = some (.int .i64 d) := cells_at hbx.block 0
    have b1 : w3.cell? ⟨B, 1, none⟩ = some (.int .i64 ar) := cells_at hbx.block 1
    have b2 : w3.cell? ⟨B, 2, none⟩ = some (.int .i64 ix) := cells_at hbx.block 2
    have e0 : w3.cell? ⟨B2, 0, none⟩ = some (.int .i64 e) := cells_at hbx.right.block 0
    have e1 : w3.cell? ⟨B2, 1, none⟩ = some (.int .i64 er) := cells_at hbx.right.block 1
    have e2 : w3.cell? ⟨B2, 2, none⟩ = some (.int .i64 ey) := cells_at hbx.right.block 2
    clear hbx
    go_wp2
    go_ret
    exact ⟨rfl, H3.out.1, (H3.out.2.perm (show _ = pts B (.cells #[.int .i64 d, .int .i64 ar, .int .i64 ix] TPl (0, 0)) * (pts B2 (.cells #[.int .i64 e, .int .i64 er, .int .i64 ey] TPl (0, 0)) * (rshAt RS p S * F)) from by ac_rfl)).right.right⟩
  have hnm2 : numM S ⟨e, er, ey⟩ = S.number ⟨e, er, ey⟩ := by unfold numM; rw [if_neg hn2]
  rw [hnm2, decide_eq_true (by omega : 0 ≤ S.number ⟨e, er, ey⟩)] at HNC
  by_cases hde : d = e
  case neg =>
    have hq : (d != e) = true := by simp [hde]
    rw [if_pos (.inr (by rw [decide_eq_false hde, Bool.and_false]))] at hwr
    rw [hwr]
    generalize S.number ⟨d, ar, ix⟩ = nm at HNB
    generalize S.number ⟨e, er, ey⟩ = nn at HNC
    clear hwr hn hwf hn2 hnm hnm2 hde
    go_enter Tryz.func49, Tryz.ntmps49
    go_upto_region 1 with (fail)
    unfold plA at HA
    generalize (w.alloc _).alloc _ = W1 at HA ⊢
    generalize w.heap.size + 1 = B2 at HA ⊢
    generalize w.heap.size = B at HA ⊢
    have hbx := HA.out.2.perm (show _ = pts B (.cells #[.int .i64 d, .int .i64 ar, .int .i64 ix] TPl (0, 0)) * (pts B2 (.cells #[.int .i64 e, .int .i64 er, .int .i64 ey] TPl (0, 0)) * (rshAt RS p S * F)) from by ac_rfl)
    have b0 : W1.cell? ⟨B, 0, none⟩ = some (.int .i64 d) := cells_at hbx.block 0
    have b1 : W1.cell? ⟨B, 1, none⟩ = some (.int .i64 ar) := cells_at hbx.block 1
    have b2 : W1.cell? ⟨B, 2, none⟩ = some (.int .i64 ix) := cells_at hbx.block 2
    have e0 : W1.cell? ⟨B2, 0, none⟩ = some (.int .i64 e) := cells_at hbx.right.block 0
    have e1 : W1.cell? ⟨B2, 1, none⟩ = some (.int .i64 er) := cells_at hbx.right.block 1
    have e2 : W1.cell? ⟨B2, 2, none⟩ = some (.int .i64 ey) := cells_at hbx.right.block 2
    clear hbx
    go_upto_region 2 with (go_at_call 81; refine (HNB.out _ W1 HA.out.2).mono ?_; rintro e' w2 ⟨rfl, hb⟩)
    clear b0 b1 b2 e0 e1 e2
    have H2 := Lib.hid (And.intro (HA.out.1.below hb) (HA.out.2.below hb))
    clear hb
    have hbx := H2.out.2.perm (show _ = pts B (.cells #[.int .i64 d, .int .i64 ar, .int .i64 ix] TPl (0, 0)) * (pts B2 (.cells #[.int .i64 e, .int .i64 er, .int .i64 ey] TPl (0, 0)) * (rshAt RS p S * F)) from by ac_rfl)
    have b0 : w2.cell? ⟨B, 0, none⟩ = some (.int .i64 d) := cells_at hbx.block 0
    have b1 : w2.cell? ⟨B, 1, none⟩ = some (.int .i64 ar) := cells_at hbx.block 1
    have b2 : w2.cell? ⟨B, 2, none⟩ = some (.int .i64 ix) := cells_at hbx.block 2
    have e0 : w2.cell? ⟨B2, 0, none⟩ = some (.int .i64 e) := cells_at hbx.right.block 0
    have e1 : w2.cell? ⟨B2, 1, none⟩ = some (.int .i64 er) := cells_at hbx.right.block 1
    have e2 : w2.cell? ⟨B2, 2, none⟩ = some (.int .i64 ey) := cells_at hbx.right.block 2
    clear hbx
    go_upto_region 3 with (go_at_call 81; refine (HNC.out _ w2 H2.out.2).mono ?_; rintro e' w3 ⟨rfl, hb⟩)
    clear b0 b1 b2 e0 e1 e2
    have H3 := Lib.hid (And.intro (H2.out.1.below hb) (H2.out.2.below hb))
    clear hb
    have hbx := H3.out.2.perm (show _ = pts B (.cells #[.int .i64 d, .int .i64 ar, .int .i64 ix] TPl (0, 0)) * (pts B2 (.cells #[.int .i64 e, .int .i64 er, .int .i64 ey] TPl (0, 0)) * (rshAt RS p S * F)) from by ac_rfl)
    have b0 : w3.cell? ⟨B, 0, none⟩ = some (.int .i64 d) := cells_at hbx.block 0
    have b1 : w3.cell? ⟨B, 1, none⟩ = some (.int .i64 ar) := cells_at hbx.block 1
    have b2 : w3.cell? ⟨B, 2, none⟩ = some (.int .i64 ix) := cells_at hbx.block 2
    have e0 : w3.cell? ⟨B2, 0, none⟩ = some (.int .i64 e) := cells_at hbx.right.block 0
    have e1 : w3.cell? ⟨B2, 1, none⟩ = some (.int .i64 er) := cells_at hbx.right.block 1
    have e2 : w3.cell? ⟨B2, 2, none⟩ = some (.int .i64 ey) := cells_at hbx.right.block 2
    clear hbx
    go_wp2
    go_ret
    exact ⟨rfl, H3.out.1, (H3.out.2.perm (show _ = pts B (.cells #[.int .i64 d, .int .i64 ar, .int .i64 ix] TPl (0, 0)) * (pts B2 (.cells #[.int .i64 e, .int .i64 er, .int .i64 ey] TPl (0, 0)) * (rshAt RS p S * F)) from by ac_rfl)).right.right⟩
  subst hde
  rw [if_neg (by rw [decide_eq_true (by omega : 0 ≤ S.number ⟨d, er, ey⟩), decide_eq_true rfl]; intro h; rcases h with h | h; exact hn h; cases h)] at hwr
  have hlt := ShelfM.number_lt hwf (a := ⟨d, ar, ix⟩) (by omega)
  dsimp only at hlt
  obtain ⟨hd0, hd1⟩ := ShelfM.state_in hwf hlt.1
  obtain ⟨k, rfl⟩ := Int.eq_ofNat_of_zero_le hd0
  have hkb : k < S.bays.length := by omega
  have HST0 := Lib.hid hlt.1
  have HWF := Lib.hid hwf
  obtain ⟨nu, hnu⟩ : ∃ nu, nu = S.number ⟨(k : Int), ar, ix⟩ := ⟨_, rfl⟩
  obtain ⟨nv, hnv⟩ : ∃ nv, nv = S.number ⟨(k : Int), er, ey⟩ := ⟨_, rfl⟩
  rw [← hnu] at HNB hwr
  rw [← hnv] at HNC hwr
  have HK := Lib.hid hkb
  clear hnu hnv hnm hnm2 hlt hd0 hd1 hwf hn hn2 hkb
  by_cases h1 : S.state (k : Int) = 1
  case neg =>
    rw [if_neg h1] at hwr
    rw [hwr]
    have e1' : (S.state (k : Int) != 1) = true := by simp [h1]
    clear hwr h1 HST0 HWF
    go_enter Tryz.func49, Tryz.ntmps49
    go_upto_region 1 with (fail)
    unfold plA at HA
    generalize (w.alloc _).alloc _ = W1 at HA ⊢
    generalize w.heap.size + 1 = B2 at HA ⊢
    generalize w.heap.size = B at HA ⊢
    have hbx := HA.out.2.perm (show _ = pts B (.cells #[.int .i64 (k : Int), .int .i64 ar, .int .i64 ix] TPl (0, 0)) * (pts B2 (.cells #[.int .i64 (k : Int), .int .i64 er, .int .i64 ey] TPl (0, 0)) * (rshAt RS p S * F)) from by ac_rfl)
    have b0 : W1.cell? ⟨B, 0, none⟩ = some (.int .i64 (k : Int)) := cells_at hbx.block 0
    have b1 : W1.cell? ⟨B, 1, none⟩ = some (.int .i64 ar) := cells_at hbx.block 1
    have b2 : W1.cell? ⟨B, 2, none⟩ = some (.int .i64 ix) := cells_at hbx.block 2
    have e0 : W1.cell? ⟨B2, 0, none⟩ = some (.int .i64 (k : Int)) := cells_at hbx.right.block 0
    have e1 : W1.cell? ⟨B2, 1, none⟩ = some (.int .i64 er) := cells_at hbx.right.block 1
    have e2 : W1.cell? ⟨B2, 2, none⟩ = some (.int .i64 ey) := cells_at hbx.right.block 2
    clear hbx
    go_upto_region 2 with (go_at_call 81; refine (HNB.out _ W1 HA.out.2).mono ?_; rintro e' w2 ⟨rfl, hb⟩)
    clear b0 b1 b2 e0 e1 e2
    have H2 := Lib.hid (And.intro (HA.out.1.below hb) (HA.out.2.below hb))
    clear hb
    have hbx := H2.out.2.perm (show _ = pts B (.cells #[.int .i64 (k : Int), .int .i64 ar, .int .i64 ix] TPl (0, 0)) * (pts B2 (.cells #[.int .i64 (k : Int), .int .i64 er, .int .i64 ey] TPl (0, 0)) * (rshAt RS p S * F)) from by ac_rfl)
    have b0 : w2.cell? ⟨B, 0, none⟩ = some (.int .i64 (k : Int)) := cells_at hbx.block 0
    have b1 : w2.cell? ⟨B, 1, none⟩ = some (.int .i64 ar) := cells_at hbx.block 1
    have b2 : w2.cell? ⟨B, 2, none⟩ = some (.int .i64 ix) := cells_at hbx.block 2
    have e0 : w2.cell? ⟨B2, 0, none⟩ = some (.int .i64 (k : Int)) := cells_at hbx.right.block 0
    have e1 : w2.cell? ⟨B2, 1, none⟩ = some (.int .i64 er) := cells_at hbx.right.block 1
    have e2 : w2.cell? ⟨B2, 2, none⟩ = some (.int .i64 ey) := cells_at hbx.right.block 2
    clear hbx
    go_upto_region 3 with (go_at_call 81; refine (HNC.out _ w2 H2.out.2).mono ?_; rintro e' w3 ⟨rfl, hb⟩)
    clear b0 b1 b2 e0 e1 e2
    have H3 := Lib.hid (And.intro (H2.out.1.below hb) (H2.out.2.below hb))
    clear hb
    have hbx := H3.out.2.perm (show _ = pts B (.cells #[.int .i64 (k : Int), .int .i64 ar, .int .i64 ix] TPl (0, 0)) * (pts B2 (.cells #[.int .i64 (k : Int), .int .i64 er, .int .i64 ey] TPl (0, 0)) * (rshAt RS p S * F)) from by ac_rfl)
    have b0 : w3.cell? ⟨B, 0, none⟩ = some (.int .i64 (k : Int)) := cells_at hbx.block 0
    have b1 : w3.cell? ⟨B, 1, none⟩ = some (.int .i64 ar) := cells_at hbx.block 1
    have b2 : w3.cell? ⟨B, 2, none⟩ = some (.int .i64 ix) := cells_at hbx.block 2
    have e0 : w3.cell? ⟨B2, 0, none⟩ = some (.int .i64 (k : Int)) := cells_at hbx.right.block 0
    have e1 : w3.cell? ⟨B2, 1, none⟩ = some (.int .i64 er) := cells_at hbx.right.block 1
    have e2 : w3.cell? ⟨B2, 2, none⟩ = some (.int .i64 ey) := cells_at hbx.right.block 2
    clear hbx
    obtain ⟨g, capb, gs, caps, q, R, ⟨_, c7⟩, ⟨_, cs⟩, _⟩ := rsh_bay H3.out.2 HK.out
    have hkn : (k : Int) < (S.bays.length : Int) := by have := HK.out; omega
    have hk0 : (0 : Int) ≤ (k : Int) := by omega
    generalize S.bays.length = n at c7 hkn
    generalize S.state (k : Int) = st at cs e1'
    go_upto_region 5 with (fail)
    go_quiet (fail)
    go_wp2
    go_ret
    exact ⟨rfl, H3.out.1.drewN _, ((H3.out.2.perm (show _ = pts B (.cells #[.int .i64 (k : Int), .int .i64 ar, .int .i64 ix] TPl (0, 0)) * (pts B2 (.cells #[.int .i64 (k : Int), .int .i64 er, .int .i64 ey] TPl (0, 0)) * (rshAt RS p S * F)) from by ac_rfl)).right.right).drewN _⟩
  case pos =>
    rw [if_pos h1] at hwr
    have HRE := Lib.hid (fun q G W (h : Sat W (refD RT q (S.disk k) * G)) => rmisdirect_any q (S.disk k) G nu nv W h)
    have HDN := Lib.hid (show ((S.disk k).misdirect nu nv).1.n = (S.disk k).n from DiskM.misdirect_n _ _ _)
    rw [hwr]
    have H1 := Lib.hid h1
    generalize (S.disk k).misdirect nu nv = rd at *
    clear hwr h1
    go_enter Tryz.func49, Tryz.ntmps49
    go_upto_region 1 with (fail)
    unfold plA at HA
    generalize (w.alloc _).alloc _ = W1 at HA ⊢
    generalize w.heap.size + 1 = B2 at HA ⊢
    generalize w.heap.size = B at HA ⊢
    have hbx := HA.out.2.perm (show _ = pts B (.cells #[.int .i64 (k : Int), .int .i64 ar, .int .i64 ix] TPl (0, 0)) * (pts B2 (.cells #[.int .i64 (k : Int), .int .i64 er, .int .i64 ey] TPl (0, 0)) * (rshAt RS p S * F)) from by ac_rfl)
    have b0 : W1.cell? ⟨B, 0, none⟩ = some (.int .i64 (k : Int)) := cells_at hbx.block 0
    have b1 : W1.cell? ⟨B, 1, none⟩ = some (.int .i64 ar) := cells_at hbx.block 1
    have b2 : W1.cell? ⟨B, 2, none⟩ = some (.int .i64 ix) := cells_at hbx.block 2
    have e0 : W1.cell? ⟨B2, 0, none⟩ = some (.int .i64 (k : Int)) := cells_at hbx.right.block 0
    have e1 : W1.cell? ⟨B2, 1, none⟩ = some (.int .i64 er) := cells_at hbx.right.block 1
    have e2 : W1.cell? ⟨B2, 2, none⟩ = some (.int .i64 ey) := cells_at hbx.right.block 2
    clear hbx
    go_upto_region 2 with (go_at_call 81; refine (HNB.out _ W1 HA.out.2).mono ?_; rintro e' w2 ⟨rfl, hb⟩)
    clear b0 b1 b2 e0 e1 e2
    have H2 := Lib.hid (And.intro (HA.out.1.below hb) (HA.out.2.below hb))
    clear hb
    have hbx := H2.out.2.perm (show _ = pts B (.cells #[.int .i64 (k : Int), .int .i64 ar, .int .i64 ix] TPl (0, 0)) * (pts B2 (.cells #[.int .i64 (k : Int), .int .i64 er, .int .i64 ey] TPl (0, 0)) * (rshAt RS p S * F)) from by ac_rfl)
    have b0 : w2.cell? ⟨B, 0, none⟩ = some (.int .i64 (k : Int)) := cells_at hbx.block 0
    have b1 : w2.cell? ⟨B, 1, none⟩ = some (.int .i64 ar) := cells_at hbx.block 1
    have b2 : w2.cell? ⟨B, 2, none⟩ = some (.int .i64 ix) := cells_at hbx.block 2
    have e0 : w2.cell? ⟨B2, 0, none⟩ = some (.int .i64 (k : Int)) := cells_at hbx.right.block 0
    have e1 : w2.cell? ⟨B2, 1, none⟩ = some (.int .i64 er) := cells_at hbx.right.block 1
    have e2 : w2.cell? ⟨B2, 2, none⟩ = some (.int .i64 ey) := cells_at hbx.right.block 2
    clear hbx
    go_upto_region 3 with (go_at_call 81; refine (HNC.out _ w2 H2.out.2).mono ?_; rintro e' w3 ⟨rfl, hb⟩)
    clear b0 b1 b2 e0 e1 e2
    have H3 := Lib.hid (And.intro (H2.out.1.below hb) (H2.out.2.below hb))
    clear hb
    have hbx := H3.out.2.perm (show _ = pts B (.cells #[.int .i64 (k : Int), .int .i64 ar, .int .i64 ix] TPl (0, 0)) * (pts B2 (.cells #[.int .i64 (k : Int), .int .i64 er, .int .i64 ey] TPl (0, 0)) * (rshAt RS p S * F)) from by ac_rfl)
    have b0 : w3.cell? ⟨B, 0, none⟩ = some (.int .i64 (k : Int)) := cells_at hbx.block 0
    have b1 : w3.cell? ⟨B, 1, none⟩ = some (.int .i64 ar) := cells_at hbx.block 1
    have b2 : w3.cell? ⟨B, 2, none⟩ = some (.int .i64 ix) := cells_at hbx.block 2
    have e0 : w3.cell? ⟨B2, 0, none⟩ = some (.int .i64 (k : Int)) := cells_at hbx.right.block 0
    have e1 : w3.cell? ⟨B2, 1, none⟩ = some (.int .i64 er) := cells_at hbx.right.block 1
    have e2 : w3.cell? ⟨B2, 2, none⟩ = some (.int .i64 ey) := cells_at hbx.right.block 2
    clear hbx
    obtain ⟨g0, capb0, gs, caps, q0, R0, ⟨_, c7⟩, ⟨_, cs⟩, _⟩ := rsh_bay H3.out.2 HK.out
    rw [H1.out] at cs
    have hkn : (k : Int) < (S.bays.length : Int) := by have := HK.out; omega
    have hk0 : (0 : Int) ≤ (k : Int) := by omega
    obtain ⟨n, hn⟩ : ∃ n, S.bays.length = n := ⟨_, rfl⟩
    rw [hn] at c7 hkn
    have HN := Lib.hid hn
    clear hn
    go_upto_region 5 with (fail)
    go_quiet (fail)
    go_upto_region 7 with (fail)
    clear b0 b1 b2 e0 e1 e2 c7 cs
    generalize hw4 : w3.drewN _ = w4
    have H4 := Lib.hid (show Same w w4 ∧ Sat w4 (rshAt RS p S * (pts B (.cells #[.int .i64 (k : Int), .int .i64 ar, .int .i64 ix] TPl (0, 0)) * (pts B2 (.cells #[.int .i64 (k : Int), .int .i64 er, .int .i64 ey] TPl (0, 0)) * F))) by rw [← hw4]; exact ⟨H3.out.1.drewN _, H3.out.2.drewN _⟩)
    clear hw4
    have b0 : w4.cell? ⟨B, 0, none⟩ = some (.int .i64 (k : Int)) := cells_at (H4.out.2.perm (show _ = pts B (.cells #[.int .i64 (k : Int), .int .i64 ar, .int .i64 ix] TPl (0, 0)) * (pts B2 (.cells #[.int .i64 (k : Int), .int .i64 er, .int .i64 ey] TPl (0, 0)) * (rshAt RS p S * F)) from by ac_rfl)).block 0
    obtain ⟨vb, vs, vi, ps, qs, q, R, ho, hs⟩ := rsh_open H4.out.2 (k := k) HK.out
    obtain ⟨g, capb, rfl, c6, cq, -⟩ := rsh_bays ho hs
    have HO := Lib.hid ho
    rw [rshO_eq] at hs
    rw [HN.out] at c6 hs
    have HQ := Lib.hid hs
    clear ho hs
    have hS0 : w4.drew.cell? ⟨p, 6, none⟩ = some (.slice (some ⟨g, 0, none⟩) n capb) ∧ w4.drew.cell? ⟨g, k, none⟩ = some (.pointer (some ⟨q, 0, none⟩)) ∧ w4.drew.cell? ⟨B, 0, none⟩ = some (.int .i64 (k : Int)) := ⟨c6, cq, b0⟩
    refine reg_begin (fun w' => w'.cell? ⟨p, 6, none⟩ = some (.slice (some ⟨g, 0, none⟩) n capb) ∧ w'.cell? ⟨g, k, none⟩ = some (.pointer (some ⟨q, 0, none⟩)) ∧ w'.cell? ⟨B, 0, none⟩ = some (.int .i64 (k : Int))) (by kernel_rfl) ?_
    clear c6 cq b0
    (apply reg_take 0 rfl rfl (by decide +kernel) rfl); (rintro w' ⟨h1, h2, h3⟩; go_simp; rfl); exact hS0; simp only [List.setIfInBounds_toArray, List.set_cons_succ, List.set_cons_zero]
    (apply reg_take 1 rfl rfl (by decide +kernel) rfl); (rintro w' ⟨h1, h2, h3⟩; go_simp; rfl); exact hS0; simp only [List.setIfInBounds_toArray, List.set_cons_succ, List.set_cons_zero]
    (apply reg_take 2 rfl rfl (by decide +kernel) rfl); (rintro w' ⟨h1, h2, h3⟩; go_simp; rfl); exact hS0; simp only [List.setIfInBounds_toArray, List.set_cons_succ, List.set_cons_zero]
    (apply reg_take 3 rfl rfl (by decide +kernel) rfl); (rintro w' ⟨h1, h2, h3⟩; go_simp; rfl); exact hS0; simp only [List.setIfInBounds_toArray, List.set_cons_succ, List.set_cons_zero]
    (apply reg_take 4 rfl rfl (by decide +kernel) rfl); (rintro w' ⟨h1, h2, h3⟩; go_simp; rfl); exact hS0; simp only [List.setIfInBounds_toArray, List.set_cons_succ, List.set_cons_zero]
    (apply reg_take 5 rfl rfl (by decide +kernel) rfl); (rintro w' ⟨h1, h2, h3⟩; go_simp; rfl); exact hS0; simp only [List.setIfInBounds_toArray, List.set_cons_succ, List.set_cons_zero]
    (apply reg_take 6 rfl rfl (by decide +kernel) rfl); (rintro w' ⟨h1, h2, h3⟩; go_simp; rfl); exact hS0; simp only [List.setIfInBounds_toArray, List.set_cons_succ, List.set_cons_zero]
    (apply reg_take 7 rfl rfl (by decide +kernel) rfl); (rintro w' ⟨h1, h2, h3⟩; go_simp; rfl); exact hS0; simp only [List.setIfInBounds_toArray, List.set_cons_succ, List.set_cons_zero]
    (apply reg_take 8 rfl rfl (by decide +kernel) rfl); (rintro w' ⟨h1, h2, h3⟩; go_simp; rfl); exact hS0; simp only [List.setIfInBounds_toArray, List.set_cons_succ, List.set_cons_zero]
    (apply reg_take 9 rfl rfl (by decide +kernel) rfl); (rintro w' ⟨h1, h2, h3⟩; go_simp; rfl); exact hS0; simp only [List.setIfInBounds_toArray, List.set_cons_succ, List.set_cons_zero]
    refine reg_call 10 rfl rfl (by decide +kernel) rfl (R := fun v w' => v = .int .i64 rd.2 ∧ Hid (Same w4 w' ∧ Sat w' (refD RT q rd.1 * rshX p S (.slice (some ⟨g, 0, none⟩) n capb) vs vi ps qs R (pts B (.cells #[.int .i64 (k : Int), .int .i64 ar, .int .i64 ix] TPl (0, 0)) * (pts B2 (.cells #[.int .i64 (k : Int), .int .i64 er, .int .i64 ey] TPl (0, 0)) * F))))) (by kernel_rfl) ((HRE.out q _ w4.drew HQ.out.drew).mono fun e w' h => ⟨_, h.1, rfl, (Same.refl w4).drew.trans h.2.out.1, h.2.out.2⟩) ?_
    rintro _ w5 ⟨rfl, h5⟩
    simp only [List.setIfInBounds_toArray, List.set_cons_succ, List.set_cons_zero]
    have h6 := h5.out.2
    rw [← HN.out, ← rshO_eq] at h6
    have h7 := (rsh_disk HO.out (HWF.out.setDisk HST0.out HDN.out) h6).perm (show _ = pts B (.cells #[.int .i64 (k : Int), .int .i64 ar, .int .i64 ix] TPl (0, 0)) * (pts B2 (.cells #[.int .i64 (k : Int), .int .i64 er, .int .i64 ey] TPl (0, 0)) * (rshAt RS p (S.setDisk k rd.1) * F)) from by ac_rfl)
    have hS5 : w5.cell? ⟨p, 6, none⟩ = some (.slice (some ⟨g, 0, none⟩) n capb) ∧ w5.cell? ⟨g, k, none⟩ = some (.pointer (some ⟨q, 0, none⟩)) ∧ w5.cell? ⟨B, 0, none⟩ = some (.int .i64 (k : Int)) := by
      obtain ⟨g', capb', e, c6, cq, -⟩ := rsh_bays HO.out h6
      cases e
      rw [HN.out] at c6
      exact ⟨c6, cq, cells_at h7.block 0⟩
    refine ⟨hS5, ?_⟩
    (apply reg_take 11 rfl rfl (by decide +kernel) rfl); (rintro w' ⟨h1, h2, h3⟩; go_simp; rfl); exact hS5; simp only [List.setIfInBounds_toArray, List.set_cons_succ, List.set_cons_zero]
    refine reg_done (by decide +kernel) ?_
    have HE := Lib.hid (And.intro h5.out.1 h7.right.right)
    clear hS0 hS5 h6 h7
    go_wp2
    go_ret
    exact ⟨rfl, H4.out.1.trans HE.out.1, HE.out.2⟩
end Go.Proofs.YtogmkbhbmmgidaaGreat
