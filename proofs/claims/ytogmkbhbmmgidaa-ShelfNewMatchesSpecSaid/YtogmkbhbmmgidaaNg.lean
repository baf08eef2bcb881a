/- ShelfNewMatchesSpec. -/
import Derived.Test.YtogmkbhbmmgidaaNf
import Derived.Test.YtogmkbhbmmgidaaTe
namespace Go.Proofs.Ytogmkbhbmmgidaa
open Go.RowKit Go.Sl Go.ChangeMaps

def newF (B P : Nat) (c : CfgM) (a : PlaceM) (X : HProp) : HProp := pts B (.cells (cfgA c) TCfg (0, 0)) * (pts P (.cells (plA a) TPl (0, 0)) * X)
theorem new_cells {w : World} {B P : Nat} {c : CfgM} {a : PlaceM} {X : HProp} (h : Sat w (newF B P c a X)) :
    ((w.cell? ⟨B, 0, none⟩ = some (.int .i64 c.disks) ∧ w.cell? ⟨B, 1, none⟩ = some (.int .i64 c.racks) ∧ w.cell? ⟨B, 2, none⟩ = some (.int .i64 c.rows)) ∧
    (w.cell? ⟨B, 3, none⟩ = some (.int .i64 c.spare) ∧ w.cell? ⟨B, 4, none⟩ = some (.int .i64 c.log) ∧ w.cell? ⟨B, 5, none⟩ = some (.int .i64 c.image))) ∧
    (w.cell? ⟨P, 0, none⟩ = some (.int .i64 a.disk) ∧ w.cell? ⟨P, 1, none⟩ = some (.int .i64 a.area) ∧ w.cell? ⟨P, 2, none⟩ = some (.int .i64 a.index)) := by
  unfold newF at h
  obtain ⟨h1, h2, _, _⟩ := cfg_cells h
  have h3 := cells_at h.right.block
  exact ⟨⟨h1, h2⟩, h3 0, h3 1, h3 2⟩
theorem small_of {c : CfgM} (h : smallB c = true) (hok : c.ok = true) : c.sectors ≤ 65536 ∧ c.disks ≤ 6 ∧ ∀ j, j < 4 → szN c j ≤ 24 := by
  have hs := sec17_eq hok
  unfold smallB at h
  simp only [Bool.and_eq_true, decide_eq_true_eq] at h
  obtain ⟨⟨⟨⟨h1, h2⟩, h3⟩, h4⟩, h5⟩ := h
  refine ⟨by omega, h1, fun j _ => ?_⟩
  unfold szN; split <;> (try split) <;> (try split) <;> omega
set_option maxRecDepth 40000 in
set_option maxHeartbeats 4000000 in
theorem newMatches_any (c : CfgM) (a : PlaceM) (w : World) :
    Calls Try.prog 3 #[.agg (cfgA c), .agg (plA a)] w fun e w' => e = .returned (.bool true) ∧ Below w.heap.size w w' := by
  have hA := ((Sat.old w).alloc (.cells (cfgA c) TCfg)).alloc (.cells (plA a) TPl)
  rw [World.size_alloc] at hA
  have H := Lib.hid (show Same w ((w.alloc (.cells (cfgA c) TCfg)).alloc (.cells (plA a) TPl)) ∧ Sat ((w.alloc (.cells (cfgA c) TCfg)).alloc (.cells (plA a) TPl)) (newF w.heap.size (w.heap.size + 1) c a (old w)) from ⟨((Same.refl w).alloc _).alloc _, hA.perm (by unfold newF; ac_rfl)⟩)
  clear hA
  have HS := Lib.hid (fun w => small_any c w)
  obtain ⟨sm, hsm⟩ : ∃ sm, Hid (smallB c = sm) := ⟨_, Lib.hid rfl⟩
  rw [hsm.out] at HS
  go_enter Try.func3, Try.ntmps3
  go_upto_region 1 with (fail)
  generalize (w.alloc (.cells (cfgA c) TCfg)).alloc (.cells (plA a) TPl) = W at H ⊢
  generalize w.heap.size + 1 = P at H ⊢
  generalize hB : w.heap.size = B at H ⊢
  have HB := Lib.hid hB
  clear hB
  go_upto_region 2 with (go_at_call 8; refine (sanity_any _ W H.out.2).mono ?_; rintro e w1 ⟨rfl, h1⟩; replace H := Lib.hid (And.intro (H.out.1.trans h1.out.1) h1.out.2); clear h1)
  obtain ⟨⟨⟨c0, c1, c2⟩, c3, c4, c5⟩, p0, p1, p2⟩ := new_cells H.out.2
  have fin : ∀ (w' : World) (X : HProp), Same w w' → Sat w' (X * old w) → Below B w w' := fun _ _ h1 h2 => by rw [← HB.out]; exact h1.below_of h2
  have FIN := Lib.hid fin
  clear fin
  cases sm
  case false =>
    go_wp2_with (go_at_call 9; refine (HS.out _).mono ?_; rintro e w2 ⟨rfl, h2⟩; replace H := Lib.hid (And.intro (H.out.1.below h2.out) (H.out.2.below h2.out)); clear h2 c0 c1 c2 c3 c4 c5 p0 p1 p2)
    go_ret
    have h := H.out.2
    unfold newF at h
    rw [← star_assoc] at h
    exact ⟨rfl, by rw [HB.out]; exact FIN.out _ _ H.out.1 h⟩
  case true =>
    go_upto_region 4 with (go_at_call 9; refine (HS.out _).mono ?_; rintro e w2 ⟨rfl, h2⟩; replace H := Lib.hid (And.intro (H.out.1.below h2.out) (H.out.2.below h2.out)); clear h2 c0 c1 c2 c3 c4 c5 p0 p1 p2)
    obtain ⟨⟨⟨c0, c1, c2⟩, c3, c4, c5⟩, p0, p1, p2⟩ := new_cells H.out.2
    cases hok : c.ok
    case false =>
      go_upto_region 5 with (go_at_call 10; refine (snew_bad c _ w2 H.out.2 hok).mono ?_; rintro e w3 ⟨rfl, h3⟩; replace H := Lib.hid (And.intro (H.out.1.trans h3.out.1) h3.out.2); clear h3 c0 c1 c2 c3 c4 c5 p0 p1 p2)
      obtain ⟨⟨⟨c0, c1, c2⟩, c3, c4, c5⟩, p0, p1, p2⟩ := new_cells H.out.2
      go_wp2_with (go_at_call 11; refine (rnew17_bad c _ w3 H.out.2 hok).mono ?_; rintro e w4 ⟨rfl, h4⟩; replace H := Lib.hid (And.intro (H.out.1.trans h4.out.1) h4.out.2); clear h4 c0 c1 c2 c3 c4 c5 p0 p1 p2)
      go_ret
      have h := H.out.2
      unfold newF at h
      rw [← star_assoc] at h
      exact ⟨rfl, by rw [HB.out]; exact FIN.out _ _ H.out.1 h⟩
    case true =>
      have HSM := Lib.hid (small_of hsm.out hok)
      go_upto_region 5 with (go_at_call 10; refine (snew_ok c _ w2 H.out.2 hok HSM.out.1).mono ?_; rintro e w3 ⟨p, rfl, h3⟩; replace H := Lib.hid (show Same w w3 ∧ Sat w3 (newF B P c a (shelfAt SH p (ShelfM.new c) * old w)) from ⟨H.out.1.trans h3.out.1, h3.out.2.perm (by unfold newF; ac_rfl)⟩); clear h3 c0 c1 c2 c3 c4 c5 p0 p1 p2)
      obtain ⟨⟨⟨c0, c1, c2⟩, c3, c4, c5⟩, p0, p1, p2⟩ := new_cells H.out.2
      go_upto_region 6 with (go_at_call 11; refine (rnew17_ok c _ w3 H.out.2 hok HSM.out.1).mono ?_; rintro e w4 ⟨q, rfl, h4⟩; replace H := Lib.hid (show Same w w4 ∧ Sat w4 (shelfAt SH p (ShelfM.new c) * (rshAt RS q (ShelfM.new c) * newF B P c a (old w))) from ⟨H.out.1.trans h4.out.1, h4.out.2.perm (by unfold newF; ac_rfl)⟩); clear h4 c0 c1 c2 c3 c4 c5 p0 p1 p2)
      have cells := fun (w' : World) (h : Sat w' (shelfAt SH p (ShelfM.new c) * (rshAt RS q (ShelfM.new c) * newF B P c a (old w)))) => (new_cells (h.perm (show _ = newF B P c a (shelfAt SH p (ShelfM.new c) * (rshAt RS q (ShelfM.new c) * old w)) from by unfold newF; ac_rfl))).2
      have CELLS := Lib.hid cells
      clear cells
      have HC := Lib.hid (show (ShelfM.new c).cfg = c from rfl)
      obtain ⟨S, hS⟩ : ∃ S, Hid (ShelfM.new c = S) := ⟨_, Lib.hid rfl⟩
      rw [hS.out] at H CELLS HC
      obtain ⟨p0, p1, p2⟩ := CELLS.out _ H.out.2
      obtain ⟨pk, hpk⟩ : ∃ pk, Hid (S.peek a = pk) := ⟨_, Lib.hid rfl⟩
      obtain ⟨ps, pb⟩ := pk
      have hq1 : ((strB ps).data == (strB ps).data) = true := by simp
      have hq2 : (pb == pb) = true := by simp
      clear hok
      go_upto_region 11 with (go_at_call 12; refine (peek_any p S _ a w4 H.out.2).mono ?_; rintro e w5 ⟨rfl, h5⟩; rw [hpk.out]; replace H := Lib.hid (And.intro (H.out.1.trans h5.1) h5.2); clear h5 p0 p1 p2)
      obtain ⟨p0, p1, p2⟩ := CELLS.out _ H.out.2
      go_upto_region 12 with (go_at_call 13; refine (rpeek_any q S _ a w5 (H.out.2.perm (show _ = rshAt RS q S * (shelfAt SH p S * newF B P c a (old w)) from by ac_rfl))).mono ?_; rintro e w6 ⟨rfl, h6⟩; rw [hpk.out]; replace H := Lib.hid (And.intro (H.out.1.below h6.out) (H.out.2.below h6.out)); clear h6 p0 p1 p2)
      go_wp2_with (go_at_call 14; refine (alike_any p q S _ w6 H.out.2 (by rw [HC.out]; exact HSM.out.2.1) (by rw [HC.out]; exact HSM.out.2.2)).mono ?_; rintro e w7 ⟨rfl, h7⟩; replace H := Lib.hid (And.intro (H.out.1.trans h7.out.1) h7.out.2); clear h7)
      go_ret
      have h := H.out.2.perm (show _ = (shelfAt SH p S * (rshAt RS q S * (pts B (.cells (cfgA c) TCfg (0, 0)) * pts P (.cells (plA a) TPl (0, 0))))) * old w from by unfold newF; ac_rfl)
      exact ⟨rfl, by rw [HB.out]; exact FIN.out _ _ H.out.1 h⟩
end Go.Proofs.Ytogmkbhbmmgidaa
