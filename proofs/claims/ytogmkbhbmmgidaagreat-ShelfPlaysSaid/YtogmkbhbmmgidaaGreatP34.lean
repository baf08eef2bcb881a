import Derived.Test.YtogmkbhbmmgidaaGreatP29
import Derived.Test.YtogmkbhbmmgidaaGreatP30
import Derived.Test.YtogmkbhbmmgidaaGreatP31
import Derived.Test.YtogmkbhbmmgidaaGreatP32
import Derived.Test.YtogmkbhbmmgidaaGreatP33
import Derived.Test.YtogmkbhbmmgidaaGreatP19
/- Part 34 of a proof; the last part says what is proved. -/
namespace Go.Proofs.YtogmkbhbmmgidaaGreat
open Go.RowKit Go.Sl Go.ChangeMaps
def RDoOut (p : Nat) (Z : ShelfM × ResM) (F : HProp) (w : World) (e : Ending) (w' : World) : Prop := e = .returned (.agg (resA Z.2)) ∧ Same w w' ∧ ∃ X, Sat w' (rshAt RS p Z.1 * (X * F))
theorem rt_read {p : Nat} {S : ShelfM} {F : HProp} {w : World} (a : PlaceM) {s : List UInt8} {k : Int} (hS : Sat w (rshAt RS p S * F)) (h : S.read a = (s, k)) :
    Calls Tryz.prog 38 #[.pointer (some ⟨p, 0, none⟩), .agg (plA a)] w fun e w' => e = .returned (.tuple #[.string (strB s), .int .i64 k]) ∧ Hid (Same w w' ∧ Sat w' (rshAt RS p S * F)) := by
  refine (rread17_any p S F a w hS).mono fun e w' h' => ?_
  rw [h] at h'
  exact h'
theorem rt_write {p : Nat} {S S' : ShelfM} {F : HProp} {w : World} {k : Int} (a : PlaceM) (s : List UInt8) (hS : Sat w (rshAt RS p S * F)) (h1 : (S.write a s).1 = S') (h2 : (S.write a s).2 = k) :
    Calls Tryz.prog 37 #[.pointer (some ⟨p, 0, none⟩), .agg (plA a), .string (strB s)] w fun e w' => e = .returned (.int .i64 k) ∧ Hid (Same w w' ∧ Sat w' (rshAt RS p S' * F)) := by
  subst h1 h2; exact rwrite17_any p S F a s w hS
set_option maxRecDepth 100000 in
set_option maxHeartbeats 8000000 in
theorem rdo17_any (p : Nat) (S : ShelfM) (F : HProp) (o : OpN) (pv : Value) (w : World) (hS : Sat w (rshAt RS p S * F)) (hpk : ∀ w', Sat w' F → IntsC w' pv o.picks) (hpl : o.picks.length ≤ 9223372036854775807) (hil : S.images.length ≤ 1000000) (hn : o.n < 9223372036854775808) :
    Calls Tryz.prog 11 #[.pointer (some ⟨p, 0, none⟩), .agg (opN o pv)] w (RDoOut p (doN S o) F w) := by
  have HS := Lib.hid (show Sat w (rshAt RS p S * (emp * F)) by rw [emp_star]; exact hS)
  have HPK := Lib.hid hpk
  clear hS hpk
  obtain ⟨Z, hdm⟩ : ∃ Z, doN S o = Z := ⟨_, rfl⟩
  rw [hdm]
  have HDM := Lib.hid hdm
  clear hdm
  go_enter Tryz.func11, Tryz.ntmps11
  go_upto_region 2 with (fail)
  have hs0 := (((HS.out).alloc (.cells (opN o pv) TOp)).alloc (.cells #[.string ⟨#[]⟩, .int .i64 0, .int .i64 0] TRes)).alloc (.cells #[.string ⟨#[]⟩, .int .i64 0, .int .i64 0] TRes)
  have hsm0 := (((Same.refl w).alloc (.cells (opN o pv) TOp)).alloc (.cells #[.string ⟨#[]⟩, .int .i64 0, .int .i64 0] TRes)).alloc (.cells #[.string ⟨#[]⟩, .int .i64 0, .int .i64 0] TRes)
  simp only [World.size_alloc] at hs0
  generalize ((w.alloc (.cells (opN o pv) TOp)).alloc (.cells #[.string ⟨#[]⟩, .int .i64 0, .int .i64 0] TRes)).alloc (.cells #[.string ⟨#[]⟩, .int .i64 0, .int .i64 0] TRes) = w1 at hs0 hsm0 ⊢
  have hne : w.heap.size + 1 ≠ w.heap.size + 1 + 1 := by omega
  generalize w.heap.size + 1 + 1 = B5 at hs0 hne ⊢
  generalize w.heap.size + 1 = B4 at hs0 hne ⊢
  generalize w.heap.size = B at hs0 ⊢
  obtain ⟨⟨k0, k1, k2, k3⟩, ⟨k4, k5, k6, k7⟩, k10, kra⟩ := op_cells hs0.right.right
  have H1 := Lib.hid (And.intro hsm0 (hs0.perm (show _ = rshAt RS p S * (pts B5 (.cells #[.string ⟨#[]⟩, .int .i64 0, .int .i64 0] TRes (0, 0)) * (pts B4 (.cells #[.string ⟨#[]⟩, .int .i64 0, .int .i64 0] TRes (0, 0)) * (pts B (.cells (opN o pv) TOp (0, 0)) * (emp * F)))) from by ac_rfl)))
  obtain ⟨⟨x0, x1, x2⟩, ⟨y0, y1, y2⟩, xl⟩ := res_cells hs0
  obtain ⟨⟨u0, u1, u2⟩, ⟨v0, v1, v2⟩, ul⟩ := res_cells hs0.right
  clear hs0 hsm0
  have fin : ∀ (w2 w3 : World) (S' : ShelfM) (r : ResM) (X : HProp), Hid (Same w1 w2 ∧ Sat w2 (rshAt RS p S' * (pts B5 (.cells #[.string ⟨#[]⟩, .int .i64 0, .int .i64 0] TRes (0, 0)) * (pts B4 (.cells #[.string ⟨#[]⟩, .int .i64 0, .int .i64 0] TRes (0, 0)) * (pts B (.cells (opN o pv) TOp (0, 0)) * (X * F)))))) →
      (∀ (Y : HProp), Sat w2 (pts B5 (.cells #[.string ⟨#[]⟩, .int .i64 0, .int .i64 0] TRes (0, 0)) * (pts B4 (.cells #[.string ⟨#[]⟩, .int .i64 0, .int .i64 0] TRes (0, 0)) * Y)) → Same w2 w3 ∧ Sat w3 (pts B5 (.cells (resA r) TRes (0, 0)) * (pts B4 (.cells (resA r) TRes (0, 0)) * Y))) → Z = (S', r) → Same w w3 ∧ ∃ X, Sat w3 (rshAt RS p Z.1 * (X * F)) := by
    rintro w2 w3 S' r X h h3 rfl
    obtain ⟨a, b⟩ := h3 (pts B (.cells (opN o pv) TOp (0, 0)) * (rshAt RS p S' * (X * F))) (h.out.2.perm (by ac_rfl))
    exact ⟨(H1.out.1.trans h.out.1).trans a, X, b.right.right.right⟩
  have FIN := Lib.hid fin
  clear fin
  have HDM := HDM.out
  unfold doN at HDM
  generalize hkd : o.kind = kd at k0 HDM
  clear hkd
  by_cases q3 : kd = 3
  · subst q3
    have hz : Z = ((S.flush o.at_.disk).1, ⟨[], 0, (S.flush o.at_.disk).2⟩) := by rw [← HDM]; simp
    obtain ⟨⟨S2, e2⟩, hop⟩ : ∃ r, S.flush o.at_.disk = r := ⟨_, rfl⟩
    have hc := rflush17_any p S _ o.at_.disk w1 H1.out.2
    rw [hop] at hz hc
    simp only at hz hc
    have HZ := Lib.hid hz
    clear hz HDM hop
    go_wp2_with (go_at_call 39; refine hc.mono ?_; rintro e w2 ⟨rfl, h2⟩; clear hc; have hs9 := h2.out.2.perm (show _ = pts B5 (.cells #[.string ⟨#[]⟩, .int .i64 0, .int .i64 0] TRes (0, 0)) * (pts B4 (.cells #[.string ⟨#[]⟩, .int .i64 0, .int .i64 0] TRes (0, 0)) * (rshAt RS p (S2) * (pts B (.cells (opN o pv) TOp (0, 0)) * (emp * F)))) from by ac_rfl); clear x0 x1 x2 y0 y1 y2 xl u0 u1 u2 v0 v1 v2 ul; obtain ⟨⟨x0, x1, x2⟩, ⟨y0, y1, y2⟩, xl⟩ := res_cells hs9; obtain ⟨⟨u0, u1, u2⟩, ⟨v0, v1, v2⟩, ul⟩ := res_cells hs9.right; have HS9 := Lib.hid hs9; clear hs9)
    have hblk := (store4 (r := ⟨[], 0, e2⟩) (store5 2 (.int .i64 e2) HS9.out rfl)).right.block
    refine bodyPost_ret (v := .agg (resA ⟨[], 0, e2⟩)) (results_cell_row Tryz.results11 _ _ B4 TRes (resA ⟨[], 0, e2⟩) (0, 0) _ rfl hblk Tryz.underlying39 rfl (infoRes _)) rfl ?_
    unfold RDoOut
    exact ⟨by rw [HZ.out], FIN.out w2 _ (S2) ⟨[], 0, e2⟩ emp h2 (fun Y h => ⟨(((((Same.refl w2).setCell _ _).setCell _ _).setCell _ _).setCell _ _), store4 (r := ⟨[], 0, e2⟩) (store5 2 (.int .i64 e2) h rfl)⟩) HZ.out⟩
  by_cases q4 : kd = 4
  · subst q4
    have hz : Z = ((S.flushAll).1, ⟨[], 0, (S.flushAll).2⟩) := by rw [← HDM]; simp
    obtain ⟨⟨S2, e2⟩, hop⟩ : ∃ r, S.flushAll = r := ⟨_, rfl⟩
    have hc := rflushAll_any p S _ w1 H1.out.2
    rw [hop] at hz hc
    simp only at hz hc
    have HZ := Lib.hid hz
    clear hz HDM hop
    go_wp2_with (go_at_call 40; refine hc.mono ?_; rintro e w2 ⟨rfl, h2⟩; clear hc; have hs9 := h2.out.2.perm (show _ = pts B5 (.cells #[.string ⟨#[]⟩, .int .i64 0, .int .i64 0] TRes (0, 0)) * (pts B4 (.cells #[.string ⟨#[]⟩, .int .i64 0, .int .i64 0] TRes (0, 0)) * (rshAt RS p (S2) * (pts B (.cells (opN o pv) TOp (0, 0)) * (emp * F)))) from by ac_rfl); clear x0 x1 x2 y0 y1 y2 xl u0 u1 u2 v0 v1 v2 ul; obtain ⟨⟨x0, x1, x2⟩, ⟨y0, y1, y2⟩, xl⟩ := res_cells hs9; obtain ⟨⟨u0, u1, u2⟩, ⟨v0, v1, v2⟩, ul⟩ := res_cells hs9.right; have HS9 := Lib.hid hs9; clear hs9)
    have hblk := (store4 (r := ⟨[], 0, e2⟩) (store5 2 (.int .i64 e2) HS9.out rfl)).right.block
    refine bodyPost_ret (v := .agg (resA ⟨[], 0, e2⟩)) (results_cell_row Tryz.results11 _ _ B4 TRes (resA ⟨[], 0, e2⟩) (0, 0) _ rfl hblk Tryz.underlying39 rfl (infoRes _)) rfl ?_
    unfold RDoOut
    exact ⟨by rw [HZ.out], FIN.out w2 _ (S2) ⟨[], 0, e2⟩ emp h2 (fun Y h => ⟨(((((Same.refl w2).setCell _ _).setCell _ _).setCell _ _).setCell _ _), store4 (r := ⟨[], 0, e2⟩) (store5 2 (.int .i64 e2) h rfl)⟩) HZ.out⟩
  by_cases q7 : kd = 7
  · subst q7
    have hz : Z = ((S.kill o.at_.disk).1, ⟨[], 0, (S.kill o.at_.disk).2⟩) := by rw [← HDM]; simp
    obtain ⟨⟨S2, e2⟩, hop⟩ : ∃ r, S.kill o.at_.disk = r := ⟨_, rfl⟩
    have hc := rkill_any p S _ o.at_.disk w1 H1.out.2
    rw [hop] at hz hc
    simp only at hz hc
    have HZ := Lib.hid hz
    clear hz HDM hop
    go_wp2_with (go_at_call 43; refine hc.mono ?_; rintro e w2 ⟨rfl, h2⟩; clear hc; have hs9 := h2.out.2.perm (show _ = pts B5 (.cells #[.string ⟨#[]⟩, .int .i64 0, .int .i64 0] TRes (0, 0)) * (pts B4 (.cells #[.string ⟨#[]⟩, .int .i64 0, .int .i64 0] TRes (0, 0)) * (rshAt RS p (S2) * (pts B (.cells (opN o pv) TOp (0, 0)) * (emp * F)))) from by ac_rfl); clear x0 x1 x2 y0 y1 y2 xl u0 u1 u2 v0 v1 v2 ul; obtain ⟨⟨x0, x1, x2⟩, ⟨y0, y1, y2⟩, xl⟩ := res_cells hs9; obtain ⟨⟨u0, u1, u2⟩, ⟨v0, v1, v2⟩, ul⟩ := res_cells hs9.right; have HS9 := Lib.hid hs9; clear hs9)
    have hblk := (store4 (r := ⟨[], 0, e2⟩) (store5 2 (.int .i64 e2) HS9.out rfl)).right.block
    refine bodyPost_ret (v := .agg (resA ⟨[], 0, e2⟩)) (results_cell_row Tryz.results11 _ _ B4 TRes (resA ⟨[], 0, e2⟩) (0, 0) _ rfl hblk Tryz.underlying39 rfl (infoRes _)) rfl ?_
    unfold RDoOut
    exact ⟨by rw [HZ.out], FIN.out w2 _ (S2) ⟨[], 0, e2⟩ emp h2 (fun Y h => ⟨(((((Same.refl w2).setCell _ _).setCell _ _).setCell _ _).setCell _ _), store4 (r := ⟨[], 0, e2⟩) (store5 2 (.int .i64 e2) h rfl)⟩) HZ.out⟩
  by_cases q9 : kd = 9
  · subst q9
    have hz : Z = ((S.insert o.at_.disk o.n).1, ⟨[], 0, (S.insert o.at_.disk o.n).2⟩) := by rw [← HDM]; simp
    obtain ⟨⟨S2, e2⟩, hop⟩ : ∃ r, S.insert o.at_.disk o.n = r := ⟨_, rfl⟩
    have hc := rinsert_any p S _ o.at_.disk o.n w1 H1.out.2
    rw [hop] at hz hc
    simp only at hz hc
    have HZ := Lib.hid hz
    clear hz HDM hop
    go_wp2_with (go_at_call 45; refine hc.mono ?_; rintro e w2 ⟨rfl, h2'⟩; obtain ⟨hsm2, X, hx2⟩ := h2'.out; have h2 := Lib.hid (show Same w1 w2 ∧ Sat w2 (rshAt RS p S2 * (pts B5 (.cells #[.string ⟨#[]⟩, .int .i64 0, .int .i64 0] TRes (0, 0)) * (pts B4 (.cells #[.string ⟨#[]⟩, .int .i64 0, .int .i64 0] TRes (0, 0)) * (pts B (.cells (opN o pv) TOp (0, 0)) * (X * F))))) from ⟨hsm2, hx2.perm (by rw [emp_star]; ac_rfl)⟩); clear h2' hsm2 hx2; clear hc; have hs9 := h2.out.2.perm (show _ = pts B5 (.cells #[.string ⟨#[]⟩, .int .i64 0, .int .i64 0] TRes (0, 0)) * (pts B4 (.cells #[.string ⟨#[]⟩, .int .i64 0, .int .i64 0] TRes (0, 0)) * (rshAt RS p (S2) * (pts B (.cells (opN o pv) TOp (0, 0)) * (X * F)))) from by ac_rfl); clear x0 x1 x2 y0 y1 y2 xl u0 u1 u2 v0 v1 v2 ul; obtain ⟨⟨x0, x1, x2⟩, ⟨y0, y1, y2⟩, xl⟩ := res_cells hs9; obtain ⟨⟨u0, u1, u2⟩, ⟨v0, v1, v2⟩, ul⟩ := res_cells hs9.right; have HS9 := Lib.hid hs9; clear hs9)
    have hblk := (store4 (r := ⟨[], 0, e2⟩) (store5 2 (.int .i64 e2) HS9.out rfl)).right.block
    refine bodyPost_ret (v := .agg (resA ⟨[], 0, e2⟩)) (results_cell_row Tryz.results11 _ _ B4 TRes (resA ⟨[], 0, e2⟩) (0, 0) _ rfl hblk Tryz.underlying39 rfl (infoRes _)) rfl ?_
    unfold RDoOut
    exact ⟨by rw [HZ.out], FIN.out w2 _ (S2) ⟨[], 0, e2⟩ X h2 (fun Y h => ⟨(((((Same.refl w2).setCell _ _).setCell _ _).setCell _ _).setCell _ _), store4 (r := ⟨[], 0, e2⟩) (store5 2 (.int .i64 e2) h rfl)⟩) HZ.out⟩
  by_cases q10 : kd = 10
  · subst q10
    have hz : Z = ((S.replace o.at_.disk).1, ⟨[], 0, (S.replace o.at_.disk).2⟩) := by rw [← HDM]; simp
    obtain ⟨⟨S2, e2⟩, hop⟩ : ∃ r, S.replace o.at_.disk = r := ⟨_, rfl⟩
    have hc := rreplace_any p S _ o.at_.disk w1 H1.out.2
    rw [hop] at hz hc
    simp only at hz hc
    have HZ := Lib.hid hz
    clear hz HDM hop
    go_wp2_with (go_at_call 46; refine hc.mono ?_; rintro e w2 ⟨rfl, h2'⟩; obtain ⟨hsm2, X, hx2⟩ := h2'.out; have h2 := Lib.hid (show Same w1 w2 ∧ Sat w2 (rshAt RS p S2 * (pts B5 (.cells #[.string ⟨#[]⟩, .int .i64 0, .int .i64 0] TRes (0, 0)) * (pts B4 (.cells #[.string ⟨#[]⟩, .int .i64 0, .int .i64 0] TRes (0, 0)) * (pts B (.cells (opN o pv) TOp (0, 0)) * (X * F))))) from ⟨hsm2, hx2.perm (by rw [emp_star]; ac_rfl)⟩); clear h2' hsm2 hx2; clear hc; have hs9 := h2.out.2.perm (show _ = pts B5 (.cells #[.string ⟨#[]⟩, .int .i64 0, .int .i64 0] TRes (0, 0)) * (pts B4 (.cells #[.string ⟨#[]⟩, .int .i64 0, .int .i64 0] TRes (0, 0)) * (rshAt RS p (S2) * (pts B (.cells (opN o pv) TOp (0, 0)) * (X * F)))) from by ac_rfl); clear x0 x1 x2 y0 y1 y2 xl u0 u1 u2 v0 v1 v2 ul; obtain ⟨⟨x0, x1, x2⟩, ⟨y0, y1, y2⟩, xl⟩ := res_cells hs9; obtain ⟨⟨u0, u1, u2⟩, ⟨v0, v1, v2⟩, ul⟩ := res_cells hs9.right; have HS9 := Lib.hid hs9; clear hs9)
    have hblk := (store4 (r := ⟨[], 0, e2⟩) (store5 2 (.int .i64 e2) HS9.out rfl)).right.block
    refine bodyPost_ret (v := .agg (resA ⟨[], 0, e2⟩)) (results_cell_row Tryz.results11 _ _ B4 TRes (resA ⟨[], 0, e2⟩) (0, 0) _ rfl hblk Tryz.underlying39 rfl (infoRes _)) rfl ?_
    unfold RDoOut
    exact ⟨by rw [HZ.out], FIN.out w2 _ (S2) ⟨[], 0, e2⟩ X h2 (fun Y h => ⟨(((((Same.refl w2).setCell _ _).setCell _ _).setCell _ _).setCell _ _), store4 (r := ⟨[], 0, e2⟩) (store5 2 (.int .i64 e2) h rfl)⟩) HZ.out⟩
  by_cases q11 : kd = 11
  · subst q11
    have hz : Z = ((S.rot o.at_ o.n).1, ⟨[], 0, (S.rot o.at_ o.n).2⟩) := by rw [← HDM]; simp
    obtain ⟨⟨S2, e2⟩, hop⟩ : ∃ r, S.rot o.at_ o.n = r := ⟨_, rfl⟩
    have hc := rrot17_any p S _ o.at_ o.n w1 H1.out.2
    rw [hop] at hz hc
    simp only at hz hc
    have HZ := Lib.hid hz
    clear hz HDM hop
    go_wp2_with (go_at_call 47; refine hc.mono ?_; rintro e w2 ⟨rfl, h2⟩; clear hc; have hs9 := h2.out.2.perm (show _ = pts B5 (.cells #[.string ⟨#[]⟩, .int .i64 0, .int .i64 0] TRes (0, 0)) * (pts B4 (.cells #[.string ⟨#[]⟩, .int .i64 0, .int .i64 0] TRes (0, 0)) * (rshAt RS p (S2) * (pts B (.cells (opN o pv) TOp (0, 0)) * (emp * F)))) from by ac_rfl); clear x0 x1 x2 y0 y1 y2 xl u0 u1 u2 v0 v1 v2 ul; obtain ⟨⟨x0, x1, x2⟩, ⟨y0, y1, y2⟩, xl⟩ := res_cells hs9; obtain ⟨⟨u0, u1, u2⟩, ⟨v0, v1, v2⟩, ul⟩ := res_cells hs9.right; have HS9 := Lib.hid hs9; clear hs9)
    have hblk := (store4 (r := ⟨[], 0, e2⟩) (store5 2 (.int .i64 e2) HS9.out rfl)).right.block
    refine bodyPost_ret (v := .agg (resA ⟨[], 0, e2⟩)) (results_cell_row Tryz.results11 _ _ B4 TRes (resA ⟨[], 0, e2⟩) (0, 0) _ rfl hblk Tryz.underlying39 rfl (infoRes _)) rfl ?_
    unfold RDoOut
    exact ⟨by rw [HZ.out], FIN.out w2 _ (S2) ⟨[], 0, e2⟩ emp h2 (fun Y h => ⟨(((((Same.refl w2).setCell _ _).setCell _ _).setCell _ _).setCell _ _), store4 (r := ⟨[], 0, e2⟩) (store5 2 (.int .i64 e2) h rfl)⟩) HZ.out⟩
  by_cases q12 : kd = 12
  · subst q12
    have hz : Z = ((S.lose o.at_).1, ⟨[], 0, (S.lose o.at_).2⟩) := by rw [← HDM]; simp
    obtain ⟨⟨S2, e2⟩, hop⟩ : ∃ r, S.lose o.at_ = r := ⟨_, rfl⟩
    have hc := rlose17_any p S _ o.at_ w1 H1.out.2
    rw [hop] at hz hc
    simp only at hz hc
    have HZ := Lib.hid hz
    clear hz HDM hop
    go_wp2_with (go_at_call 48; refine hc.mono ?_; rintro e w2 ⟨rfl, h2⟩; clear hc; have hs9 := h2.out.2.perm (show _ = pts B5 (.cells #[.string ⟨#[]⟩, .int .i64 0, .int .i64 0] TRes (0, 0)) * (pts B4 (.cells #[.string ⟨#[]⟩, .int .i64 0, .int .i64 0] TRes (0, 0)) * (rshAt RS p (S2) * (pts B (.cells (opN o pv) TOp (0, 0)) * (emp * F)))) from by ac_rfl); clear x0 x1 x2 y0 y1 y2 xl u0 u1 u2 v0 v1 v2 ul; obtain ⟨⟨x0, x1, x2⟩, ⟨y0, y1, y2⟩, xl⟩ := res_cells hs9; obtain ⟨⟨u0, u1, u2⟩, ⟨v0, v1, v2⟩, ul⟩ := res_cells hs9.right; have HS9 := Lib.hid hs9; clear hs9)
    have hblk := (store4 (r := ⟨[], 0, e2⟩) (store5 2 (.int .i64 e2) HS9.out rfl)).right.block
    refine bodyPost_ret (v := .agg (resA ⟨[], 0, e2⟩)) (results_cell_row Tryz.results11 _ _ B4 TRes (resA ⟨[], 0, e2⟩) (0, 0) _ rfl hblk Tryz.underlying39 rfl (infoRes _)) rfl ?_
    unfold RDoOut
    exact ⟨by rw [HZ.out], FIN.out w2 _ (S2) ⟨[], 0, e2⟩ emp h2 (fun Y h => ⟨(((((Same.refl w2).setCell _ _).setCell _ _).setCell _ _).setCell _ _), store4 (r := ⟨[], 0, e2⟩) (store5 2 (.int .i64 e2) h rfl)⟩) HZ.out⟩
  by_cases q13 : kd = 13
  · subst q13
    have hz : Z = ((S.misdirect o.at_ o.dst).1, ⟨[], 0, (S.misdirect o.at_ o.dst).2⟩) := by rw [← HDM]; simp
    obtain ⟨⟨S2, e2⟩, hop⟩ : ∃ r, S.misdirect o.at_ o.dst = r := ⟨_, rfl⟩
    have hc := rmisdirect17_any p S _ o.at_ o.dst w1 H1.out.2
    rw [hop] at hz hc
    simp only at hz hc
    have HZ := Lib.hid hz
    clear hz HDM hop
    go_wp2_with (go_at_call 49; refine hc.mono ?_; rintro e w2 ⟨rfl, h2⟩; clear hc; have hs9 := h2.out.2.perm (show _ = pts B5 (.cells #[.string ⟨#[]⟩, .int .i64 0, .int .i64 0] TRes (0, 0)) * (pts B4 (.cells #[.string ⟨#[]⟩, .int .i64 0, .int .i64 0] TRes (0, 0)) * (rshAt RS p (S2) * (pts B (.cells (opN o pv) TOp (0, 0)) * (emp * F)))) from by ac_rfl); clear x0 x1 x2 y0 y1 y2 xl u0 u1 u2 v0 v1 v2 ul; obtain ⟨⟨x0, x1, x2⟩, ⟨y0, y1, y2⟩, xl⟩ := res_cells hs9; obtain ⟨⟨u0, u1, u2⟩, ⟨v0, v1, v2⟩, ul⟩ := res_cells hs9.right; have HS9 := Lib.hid hs9; clear hs9)
    have hblk := (store4 (r := ⟨[], 0, e2⟩) (store5 2 (.int .i64 e2) HS9.out rfl)).right.block
    refine bodyPost_ret (v := .agg (resA ⟨[], 0, e2⟩)) (results_cell_row Tryz.results11 _ _ B4 TRes (resA ⟨[], 0, e2⟩) (0, 0) _ rfl hblk Tryz.underlying39 rfl (infoRes _)) rfl ?_
    unfold RDoOut
    exact ⟨by rw [HZ.out], FIN.out w2 _ (S2) ⟨[], 0, e2⟩ emp h2 (fun Y h => ⟨(((((Same.refl w2).setCell _ _).setCell _ _).setCell _ _).setCell _ _), store4 (r := ⟨[], 0, e2⟩) (store5 2 (.int .i64 e2) h rfl)⟩) HZ.out⟩
  by_cases q5 : kd = 5
  · subst q5
    have hz : Z = (S.fuse o.n, ⟨[], 0, 0⟩) := by rw [← HDM]; simp
    have hc := rfuse_any p S _ o.n hn w1 H1.out.2
    have HZ := Lib.hid hz
    clear hz HDM
    go_wp2_with (go_at_call 41; refine hc.mono ?_; rintro e w2 ⟨rfl, h2⟩; clear hc; have hs9 := h2.out.2.perm (show _ = pts B5 (.cells #[.string ⟨#[]⟩, .int .i64 0, .int .i64 0] TRes (0, 0)) * (pts B4 (.cells #[.string ⟨#[]⟩, .int .i64 0, .int .i64 0] TRes (0, 0)) * (rshAt RS p (S.fuse o.n) * (pts B (.cells (opN o pv) TOp (0, 0)) * (emp * F)))) from by ac_rfl); clear x0 x1 x2 y0 y1 y2 xl u0 u1 u2 v0 v1 v2 ul; obtain ⟨⟨x0, x1, x2⟩, ⟨y0, y1, y2⟩, xl⟩ := res_cells hs9; obtain ⟨⟨u0, u1, u2⟩, ⟨v0, v1, v2⟩, ul⟩ := res_cells hs9.right; have HS9 := Lib.hid hs9; clear hs9)
    have hblk := (store4 (r := ⟨[], 0, 0⟩) (HS9.out)).right.block
    refine bodyPost_ret (v := .agg (resA ⟨[], 0, 0⟩)) (results_cell_row Tryz.results11 _ _ B4 TRes (resA ⟨[], 0, 0⟩) (0, 0) _ rfl hblk Tryz.underlying39 rfl (infoRes _)) rfl ?_
    unfold RDoOut
    exact ⟨by rw [HZ.out], FIN.out w2 _ (S.fuse o.n) ⟨[], 0, 0⟩ emp h2 (fun Y h => ⟨((((Same.refl w2).setCell _ _).setCell _ _).setCell _ _), store4 (r := ⟨[], 0, 0⟩) (h)⟩) HZ.out⟩
  by_cases q6 : kd = 6
  · subst q6
    have hz : Z = (S.mount o.picks, ⟨[], 0, 0⟩) := by rw [← HDM]; simp
    have hc := rmount_any p S _ pv o.picks w1 H1.out.2 (fun w' h => HPK.out w' h.right.right.right.right) hpl
    have HZ := Lib.hid hz
    clear hz HDM
    go_wp2_with (go_at_call 42; refine hc.mono ?_; rintro e w2 ⟨rfl, h2⟩; clear hc; have hs9 := h2.out.2.perm (show _ = pts B5 (.cells #[.string ⟨#[]⟩, .int .i64 0, .int .i64 0] TRes (0, 0)) * (pts B4 (.cells #[.string ⟨#[]⟩, .int .i64 0, .int .i64 0] TRes (0, 0)) * (rshAt RS p (S.mount o.picks) * (pts B (.cells (opN o pv) TOp (0, 0)) * (emp * F)))) from by ac_rfl); clear x0 x1 x2 y0 y1 y2 xl u0 u1 u2 v0 v1 v2 ul; obtain ⟨⟨x0, x1, x2⟩, ⟨y0, y1, y2⟩, xl⟩ := res_cells hs9; obtain ⟨⟨u0, u1, u2⟩, ⟨v0, v1, v2⟩, ul⟩ := res_cells hs9.right; have HS9 := Lib.hid hs9; clear hs9)
    have hblk := (store4 (r := ⟨[], 0, 0⟩) (HS9.out)).right.block
    refine bodyPost_ret (v := .agg (resA ⟨[], 0, 0⟩)) (results_cell_row Tryz.results11 _ _ B4 TRes (resA ⟨[], 0, 0⟩) (0, 0) _ rfl hblk Tryz.underlying39 rfl (infoRes _)) rfl ?_
    unfold RDoOut
    exact ⟨by rw [HZ.out], FIN.out w2 _ (S.mount o.picks) ⟨[], 0, 0⟩ emp h2 (fun Y h => ⟨((((Same.refl w2).setCell _ _).setCell _ _).setCell _ _), store4 (r := ⟨[], 0, 0⟩) (h)⟩) HZ.out⟩
  by_cases q2 : kd = 2
  · subst q2
    have hz : Z = (S, ⟨(S.read o.at_).1, 0, (S.read o.at_).2⟩) := by rw [← HDM]; simp
    obtain ⟨⟨t2, e2⟩, hop⟩ : ∃ r, S.read o.at_ = r := ⟨_, rfl⟩
    have hc := rt_read o.at_ H1.out.2 hop
    rw [hop] at hz
    simp only at hz
    have HZ := Lib.hid hz
    clear hz HDM hop
    go_wp2_with (go_at_call 38; refine hc.mono ?_; rintro e w2 ⟨rfl, h2⟩; clear hc; have hs9 := h2.out.2.perm (show _ = pts B5 (.cells #[.string ⟨#[]⟩, .int .i64 0, .int .i64 0] TRes (0, 0)) * (pts B4 (.cells #[.string ⟨#[]⟩, .int .i64 0, .int .i64 0] TRes (0, 0)) * (rshAt RS p (S) * (pts B (.cells (opN o pv) TOp (0, 0)) * (emp * F)))) from by ac_rfl); clear x0 x1 x2 y0 y1 y2 xl u0 u1 u2 v0 v1 v2 ul; obtain ⟨⟨x0, x1, x2⟩, ⟨y0, y1, y2⟩, xl⟩ := res_cells hs9; obtain ⟨⟨u0, u1, u2⟩, ⟨v0, v1, v2⟩, ul⟩ := res_cells hs9.right; have HS9 := Lib.hid hs9; clear hs9)
    have hblk := (store4 (r := ⟨t2, 0, e2⟩) (store5 2 (.int .i64 e2) (store5 0 (.string (strB t2)) HS9.out rfl) rfl)).right.block
    refine bodyPost_ret (v := .agg (resA ⟨t2, 0, e2⟩)) (results_cell_row Tryz.results11 _ _ B4 TRes (resA ⟨t2, 0, e2⟩) (0, 0) _ rfl hblk Tryz.underlying39 rfl (infoRes _)) rfl ?_
    unfold RDoOut
    exact ⟨by rw [HZ.out], FIN.out w2 _ (S) ⟨t2, 0, e2⟩ emp h2 (fun Y h => ⟨((((((Same.refl w2).setCell _ _).setCell _ _).setCell _ _).setCell _ _).setCell _ _), store4 (r := ⟨t2, 0, e2⟩) (store5 2 (.int .i64 e2) (store5 0 (.string (strB t2)) h rfl) rfl)⟩) HZ.out⟩
  by_cases q8 : kd = 8
  · subst q8
    have hz : Z = ((S.remove o.at_.disk).1, ⟨[], (S.remove o.at_.disk).2.1, (S.remove o.at_.disk).2.2⟩) := by rw [← HDM]; simp
    have hc := rremove_any p S _ o.at_.disk w1 H1.out.2 hil
    obtain ⟨⟨S2, n2, e2⟩, hop⟩ : ∃ r, S.remove o.at_.disk = r := ⟨_, rfl⟩
    rw [hop] at hz hc
    simp only at hz hc
    have HZ := Lib.hid hz
    clear hz HDM hop
    go_wp2_with (go_at_call 44; refine hc.mono ?_; rintro e w2 ⟨rfl, h2⟩; clear hc; have hs9 := h2.out.2.perm (show _ = pts B5 (.cells #[.string ⟨#[]⟩, .int .i64 0, .int .i64 0] TRes (0, 0)) * (pts B4 (.cells #[.string ⟨#[]⟩, .int .i64 0, .int .i64 0] TRes (0, 0)) * (rshAt RS p (S2) * (pts B (.cells (opN o pv) TOp (0, 0)) * (emp * F)))) from by ac_rfl); clear x0 x1 x2 y0 y1 y2 xl u0 u1 u2 v0 v1 v2 ul; obtain ⟨⟨x0, x1, x2⟩, ⟨y0, y1, y2⟩, xl⟩ := res_cells hs9; obtain ⟨⟨u0, u1, u2⟩, ⟨v0, v1, v2⟩, ul⟩ := res_cells hs9.right; have HS9 := Lib.hid hs9; clear hs9)
    have hblk := (store4 (r := ⟨[], n2, e2⟩) (store5 2 (.int .i64 e2) (store5 1 (.int .i64 n2) HS9.out rfl) rfl)).right.block
    refine bodyPost_ret (v := .agg (resA ⟨[], n2, e2⟩)) (results_cell_row Tryz.results11 _ _ B4 TRes (resA ⟨[], n2, e2⟩) (0, 0) _ rfl hblk Tryz.underlying39 rfl (infoRes _)) rfl ?_
    unfold RDoOut
    exact ⟨by rw [HZ.out], FIN.out w2 _ (S2) ⟨[], n2, e2⟩ emp h2 (fun Y h => ⟨((((((Same.refl w2).setCell _ _).setCell _ _).setCell _ _).setCell _ _).setCell _ _), store4 (r := ⟨[], n2, e2⟩) (store5 2 (.int .i64 e2) (store5 1 (.int .i64 n2) h rfl) rfl)⟩) HZ.out⟩
  by_cases q1 : kd = 1
  · subst q1
    have hz : Z = ((S.write o.at_ o.text).1, ⟨[], 0, (S.write o.at_ o.text).2⟩) := by rw [← HDM]; simp
    obtain ⟨⟨S2, e2⟩, hop⟩ : ∃ r, S.write o.at_ o.text = r := ⟨_, rfl⟩
    rw [hop] at hz
    simp only at hz
    have HZ := Lib.hid hz
    have HOP := Lib.hid hop
    clear hz HDM hop
    go_upto_region 4 with (fail)
    have hS0 : (w1.drew.cell? ⟨B, 1, none⟩ = some (.int .i64 o.at_.disk) ∧ w1.drew.cell? ⟨B, 2, none⟩ = some (.int .i64 o.at_.area) ∧ w1.drew.cell? ⟨B, 3, none⟩ = some (.int .i64 o.at_.index)) ∧ w1.drew.rangeAt B 0 (opN o pv).toList := ⟨⟨k1, k2, k3⟩, kra⟩
    refine reg_begin (fun w' => (w'.cell? ⟨B, 1, none⟩ = some (.int .i64 o.at_.disk) ∧ w'.cell? ⟨B, 2, none⟩ = some (.int .i64 o.at_.area) ∧ w'.cell? ⟨B, 3, none⟩ = some (.int .i64 o.at_.index)) ∧ w'.rangeAt B 0 (opN o pv).toList) (by kernel_rfl) ?_
    (apply reg_take 0 rfl rfl (by decide +kernel) rfl); (rintro w' ⟨⟨h1, h2, h3⟩, h4⟩; go_simp; rfl); exact hS0; simp only [List.setIfInBounds_toArray, List.set_cons_succ, List.set_cons_zero]
    (apply reg_take 1 rfl rfl (by decide +kernel) rfl); (rintro w' ⟨⟨h1, h2, h3⟩, h4⟩; go_simp; rfl); exact hS0; simp only [List.setIfInBounds_toArray, List.set_cons_succ, List.set_cons_zero]
    (apply reg_take 2 rfl rfl (by decide +kernel) rfl); (rintro w' ⟨⟨h1, h2, h3⟩, h4⟩; go_simp; rfl); exact hS0; simp only [List.setIfInBounds_toArray, List.set_cons_succ, List.set_cons_zero]
    refine reg_take 3 (v := .agg (opN o pv)) rfl rfl (by decide +kernel) rfl (fun w' h => exec_load rfl rfl (run_loadAt_mid w' B 0 TOp (opN o pv).toList _ h.2 Tryz.underlying45 rfl (by rw [infoTOp o pv]; rfl))) hS0 ?_; simp only [List.setIfInBounds_toArray, List.set_cons_succ, List.set_cons_zero]
    refine reg_call 4 rfl rfl (by decide +kernel) rfl (f := 26) (args := #[.agg (opN o pv)]) (R := fun v w' => v = .string (strB o.text) ∧ Hid (Below w1.heap.size w1 w')) (by kernel_rfl) ((text_any o pv w1.drew).mono fun e w' h => ⟨_, h.1, rfl, ⟨h.2.out.os, h.2.out.tape, h.2.out.output, h.2.out.size, h.2.out.block⟩⟩) ?_
    rintro _ wt ⟨rfl, hbt⟩
    have HT := Lib.hid (H1.out.2.below hbt.out)
    have hcs : ∀ (w' : World) (Sx : ShelfM), Sat w' (rshAt RS p Sx * (pts B5 (.cells #[.string ⟨#[]⟩, .int .i64 0, .int .i64 0] TRes (0, 0)) * (pts B4 (.cells #[.string ⟨#[]⟩, .int .i64 0, .int .i64 0] TRes (0, 0)) * (pts B (.cells (opN o pv) TOp (0, 0)) * (emp * F))))) → (w'.cell? ⟨B, 1, none⟩ = some (.int .i64 o.at_.disk) ∧ w'.cell? ⟨B, 2, none⟩ = some (.int .i64 o.at_.area) ∧ w'.cell? ⟨B, 3, none⟩ = some (.int .i64 o.at_.index)) ∧ w'.rangeAt B 0 (opN o pv).toList := by
      intro w' Sx h
      obtain ⟨⟨j0, j1, j2, j3⟩, _, _, jr⟩ := op_cells h.right.right.right
      exact ⟨⟨j1, j2, j3⟩, jr⟩
    have hS1 := hcs wt S HT.out
    refine ⟨hS1, ?_⟩
    simp only [List.setIfInBounds_toArray, List.set_cons_succ, List.set_cons_zero]
    refine reg_call 5 rfl rfl (by decide +kernel) rfl (f := 37) (args := #[.pointer (some ⟨p, 0, none⟩), .agg (plA o.at_), .string (strB o.text)]) (R := fun v w' => v = .int .i64 e2 ∧ Hid (Same w1 w' ∧ Sat w' (rshAt RS p S2 * (pts B5 (.cells #[.string ⟨#[]⟩, .int .i64 0, .int .i64 0] TRes (0, 0)) * (pts B4 (.cells #[.string ⟨#[]⟩, .int .i64 0, .int .i64 0] TRes (0, 0)) * (pts B (.cells (opN o pv) TOp (0, 0)) * (emp * F))))))) (by kernel_rfl)
      ((rt_write o.at_ o.text HT.out (by rw [HOP.out]) (by rw [HOP.out])).mono fun e w' h => ⟨_, h.1, rfl, ((Same.refl w1).below hbt.out).trans h.2.out.1, h.2.out.2⟩) ?_
    rintro _ w2 ⟨rfl, h2⟩
    have hS2 := hcs w2 S2 h2.out.2
    refine ⟨hS2, ?_⟩
    simp only [List.setIfInBounds_toArray, List.set_cons_succ, List.set_cons_zero]
    (apply reg_take 6 rfl rfl (by decide +kernel) rfl); (rintro w' ⟨⟨h1, h2, h3⟩, h4⟩; go_simp; rfl); exact hS2; simp only [List.setIfInBounds_toArray, List.set_cons_succ, List.set_cons_zero]
    have hs9 := h2.out.2.perm (show _ = pts B5 (.cells #[.string ⟨#[]⟩, .int .i64 0, .int .i64 0] TRes (0, 0)) * (pts B4 (.cells #[.string ⟨#[]⟩, .int .i64 0, .int .i64 0] TRes (0, 0)) * (rshAt RS p (S2) * (pts B (.cells (opN o pv) TOp (0, 0)) * (emp * F)))) from by ac_rfl); clear x0 x1 x2 y0 y1 y2 xl u0 u1 u2 v0 v1 v2 ul; obtain ⟨⟨x0, x1, x2⟩, ⟨y0, y1, y2⟩, xl⟩ := res_cells hs9; obtain ⟨⟨u0, u1, u2⟩, ⟨v0, v1, v2⟩, ul⟩ := res_cells hs9.right; have HS9 := Lib.hid hs9; clear hs9
    obtain ⟨ie, hie, hie2⟩ := Option.map_eq_some_iff.1 (show (Tryz.prog.info? 30).map (·.size) = some 1 by kernel_rfl)
    refine reg_do_last 7 (w2.setCell ⟨B5, 2, none⟩ (.int .i64 e2)) rfl rfl (by decide +kernel) rfl (exec_store_cell rfl rfl rfl hie hie2 rfl x2 y2) ?_
    go_wp2
    have hblk := (store4 (r := ⟨[], 0, e2⟩) (store5 2 (.int .i64 e2) HS9.out rfl)).right.block
    refine bodyPost_ret (v := .agg (resA ⟨[], 0, e2⟩)) (results_cell_row Tryz.results11 _ _ B4 TRes (resA ⟨[], 0, e2⟩) (0, 0) _ rfl hblk Tryz.underlying39 rfl (infoRes _)) rfl ?_
    unfold RDoOut
    exact ⟨by rw [HZ.out], FIN.out w2 _ (S2) ⟨[], 0, e2⟩ emp h2 (fun Y h => ⟨(((((Same.refl w2).setCell _ _).setCell _ _).setCell _ _).setCell _ _), store4 (r := ⟨[], 0, e2⟩) (store5 2 (.int .i64 e2) h rfl)⟩) HZ.out⟩
  have hz : Z = (S, ⟨[], 0, 0⟩) := by rw [← HDM]; simp [q1, q2, q3, q4, q5, q6, q7, q8, q9, q10, q11, q12, q13]
  have r1 : (kd == 1) = false := by simpa using q1
  have r2 : (kd == 2) = false := by simpa using q2
  have r3 : (kd == 3) = false := by simpa using q3
  have r4 : (kd == 4) = false := by simpa using q4
  have r5 : (kd == 5) = false := by simpa using q5
  have r6 : (kd == 6) = false := by simpa using q6
  have r7 : (kd == 7) = false := by simpa using q7
  have r8 : (kd == 8) = false := by simpa using q8
  have r9 : (kd == 9) = false := by simpa using q9
  have r10 : (kd == 10) = false := by simpa using q10
  have r11 : (kd == 11) = false := by simpa using q11
  have r12 : (kd == 12) = false := by simpa using q12
  have r13 : (kd == 13) = false := by simpa using q13
  clear q1 q2 q3 q4 q5 q6 q7 q8 q9 q10 q11 q12 q13 HDM
  have HZ := Lib.hid hz
  clear hz
  go_wp2
  have h2 := Lib.hid (And.intro (Same.refl w1) H1.out.2)
  have HS9 := Lib.hid (H1.out.2.perm (show _ = pts B5 (.cells #[.string ⟨#[]⟩, .int .i64 0, .int .i64 0] TRes (0, 0)) * (pts B4 (.cells #[.string ⟨#[]⟩, .int .i64 0, .int .i64 0] TRes (0, 0)) * (rshAt RS p S * (pts B (.cells (opN o pv) TOp (0, 0)) * (emp * F)))) from by ac_rfl))
  have hblk := (store4 (r := ⟨[], 0, 0⟩) (HS9.out)).right.block
  refine bodyPost_ret (v := .agg (resA ⟨[], 0, 0⟩)) (results_cell_row Tryz.results11 _ _ B4 TRes (resA ⟨[], 0, 0⟩) (0, 0) _ rfl hblk Tryz.underlying39 rfl (infoRes _)) rfl ?_
  unfold RDoOut
  exact ⟨by rw [HZ.out], FIN.out w1 _ (S) ⟨[], 0, 0⟩ emp h2 (fun Y h => ⟨((((Same.refl w1).setCell _ _).setCell _ _).setCell _ _), store4 (r := ⟨[], 0, 0⟩) (h)⟩) HZ.out⟩
end Go.Proofs.YtogmkbhbmmgidaaGreat
