/- solventlaw27.same: a space that is as the specified one is found to be so. Printed by ug.py. -/
import Derived.Test.YtednjhlkhecihaaGreatDoorUe
import Derived.Test.YtednjhlkhecihaaGreatDoorWe
import Derived.Test.YtednjhlkhecihaaGreatDoorWc
import Derived.BigQuiet
namespace Go.Proofs.YtednjhlkhecihaaGreatDoor
open Go.RowKit Go.Vol Go.Sl

structure SmSt (w : World) (n : Nat) (i : Value) (wr : World) : Prop where
  st : ∃ k : Nat, k ≤ n ∧ i = .int .i64 (k : Int) ∧ Below w.heap.size w wr
/-- All that same has at hand. -/
structure SmF (w W : World) (p B : Nat) (S : SpaceM) (vv vs v1 v2 s1 s2 : Value) : Prop where
  bl : Below w.heap.size w W
  sp : SpaceAt TNode TSp W p S
  rf : RefAt (fun _ => True) W vv vs S
  bx : W.heap[B]? = some (.cells #[vv, vs] TRS (0, 0))
  v1 : RowsAt W v1 S.vols.length (S.vols.flatMap viE)
  v2 : RowsAt W v2 S.vols.length (S.vols.flatMap viE)
  s1 : RowsAt W s1 S.snaps.length (S.snaps.flatMap siE)
  s2 : RowsAt W s2 S.snaps.length (S.snaps.flatMap siE)
theorem SmF.next {w W W' : World} {p B : Nat} {S : SpaceM} {vv vs v1 v2 s1 s2 : Value} (h : SmF w W p B S vv vs v1 v2 s1 s2) (hb : Below W.heap.size W W') : SmF w W' p B S vv vs v1 v2 s1 s2 :=
  ⟨h.bl.trans (hb.mono h.bl.size), h.sp.below hb, h.rf.below hb, (hb.block B (Array.getElem?_eq_some_iff.1 h.bx).1).trans h.bx, h.v1.below hb, h.v2.below hb, h.s1.below hb, h.s2.below hb⟩

set_option maxRecDepth 20000 in
set_option maxHeartbeats 4000000 in
theorem same27_any {ok : Nat → Prop} (p : Nat) (S : SpaceM) (vv vs : Value) (w : World) (hS : SpaceAt TNode TSp w p S) (hwf : S.WF) (hR : RefAt ok w vv vs S) :
    Calls Tryz.prog 8 #[.pointer (some ⟨p, 0, none⟩), .agg #[vv, vs]] w fun e w' => e = .returned (.bool true) ∧ Below w.heap.size w w' := by
  obtain ⟨va, vc, rfl, _⟩ := hR.v.slice
  obtain ⟨sa, sc, rfl, _⟩ := hR.s.slice
  have hvl := hwf.vlen
  have hsl := hwf.slen
  have hb0 := (Below.refl w.heap.size w).alloc (Nat.le_refl _) (.cells #[.slice va S.vols.length vc, .slice sa S.snaps.length sc] TRS)
  have hbx := heap_alloc_new w (.cells #[.slice va S.vols.length vc, .slice sa S.snaps.length sc] TRS)
  have HB := Lib.hid (show SmF w (w.alloc (.cells #[.slice va S.vols.length vc, .slice sa S.snaps.length sc] TRS)) p w.heap.size ⟨[], []⟩ (.slice none 0 0) (.slice none 0 0) (.slice none 0 0) (.slice none 0 0) (.slice none 0 0) (.slice none 0 0) ∨ True from .inr trivial)
  have H0 := Lib.hid (And.intro hb0 (And.intro (hS.below hb0) (And.intro ((hR.weaken (ok' := fun _ => True) fun _ _ _ => trivial).below hb0) (And.intro hbx hwf))))
  clear hb0 hbx HB hS hR hwf
  go_enter Tryz.func8, Tryz.ntmps8
  go_upto_region 1 with (fail)
  generalize w.alloc (.cells #[.slice va S.vols.length vc, .slice sa S.snaps.length sc] TRS) = W0 at H0 ⊢
  generalize hBB : w.heap.size = B at H0 ⊢
  have c0 := cells_at H0.out.2.2.2.1 0; have c1 := cells_at H0.out.2.2.2.1 1
  go_upto_region 5 with (first
    | (go_at_call 37; refine (volsS_any p S _ H0.out.2.1 H0.out.2.2.2.2).mono ?_; rintro e W1 ⟨v1, rfl, h1⟩; clear c0 c1; have H1 := Lib.hid (And.intro h1.out.2 ((h1.out.1.block B (Array.getElem?_eq_some_iff.1 H0.out.2.2.2.1).1).trans H0.out.2.2.2.1)); have c0 := cells_at H1.out.2 0; have c1 := cells_at H1.out.2 1)
    | (go_at_call 38; refine (rvols_any _ _ S _ (H0.out.2.2.1.below h1.out.1) (by omega)).mono ?_; rintro e W2 ⟨v2, rfl, h2⟩; clear c0 c1; have H2 := Lib.hid (And.intro h2.out.2 ((h2.out.1.block B (Array.getElem?_eq_some_iff.1 H1.out.2).1).trans H1.out.2)); have c0 := cells_at H2.out.2 0; have c1 := cells_at H2.out.2 1)
    | (go_at_call 39; refine (snapsS_any p S _ ((H0.out.2.1.below h1.out.1).below h2.out.1) H0.out.2.2.2.2).mono ?_; rintro e W3 ⟨s1, rfl, h3⟩; clear c0 c1; have H3 := Lib.hid (And.intro h3.out.2 ((h3.out.1.block B (Array.getElem?_eq_some_iff.1 H2.out.2).1).trans H2.out.2)); have c0 := cells_at H3.out.2 0; have c1 := cells_at H3.out.2 1)
    | (go_at_call 40; refine (rall_any _ _ S _ (((H0.out.2.2.1.below h1.out.1).below h2.out.1).below h3.out.1) (by omega)).mono ?_; rintro e W4 ⟨s2, rfl, h4⟩; clear c0 c1))
  have HB := Lib.hid (show SmF w W4 p B S (.slice va S.vols.length vc) (.slice sa S.snaps.length sc) v1 v2 s1 s2 from
    ⟨by
      have z1 := H0.out.1.trans (h1.out.1.mono (by rw [← hBB]; exact H0.out.1.size))
      have z2 := z1.trans (h2.out.1.mono (by rw [← hBB]; exact z1.size))
      have z3 := z2.trans (h3.out.1.mono (by rw [← hBB]; exact z2.size))
      have z4 := z3.trans (h4.out.1.mono (by rw [← hBB]; exact z3.size))
      rw [hBB]; exact z4,
     (((H0.out.2.1.below h1.out.1).below h2.out.1).below h3.out.1).below h4.out.1, (((H0.out.2.2.1.below h1.out.1).below h2.out.1).below h3.out.1).below h4.out.1,
     (h4.out.1.block B (Array.getElem?_eq_some_iff.1 H3.out.2).1).trans H3.out.2,
     ((h1.out.2.below h2.out.1).below h3.out.1).below h4.out.1, (h2.out.2.below h3.out.1).below h4.out.1, h3.out.2.below h4.out.1, h4.out.2⟩)
  obtain ⟨b1, k1, rfl, _⟩ := id HB.out.v1
  obtain ⟨b2, k2, rfl, _⟩ := id HB.out.v2
  obtain ⟨b3, k3, rfl, _⟩ := id HB.out.s1
  obtain ⟨b4, k4, rfl, _⟩ := id HB.out.s2
  clear h1 h2 h3 h4 H0 H1 H2 H3
  have hq1 : ((S.vols.length : Int) != (S.vols.length : Int)) = false := by simp
  have hq2 : ((S.snaps.length : Int) != (S.snaps.length : Int)) = false := by simp
  go_wp2
  go_loopw [9] (fun i wr => SmSt W4 S.vols.length i wr) (fun i _ => S.vols.length - (intOf i).toNat)
  case atStart => exact ⟨⟨0, Nat.zero_le _, rfl, Below.refl _ _⟩⟩
  case round =>
    obtain ⟨k, hk, rfl, hbw⟩ := hrel.st
    clear hrel
    by_cases hlt : k < S.vols.length
    · have hltd : decide ((k : Int) < (S.vols.length : Int)) = true := decide_eq_true (by omega)
      have hki : (k : Int) ≤ 1000 := by omega
      obtain ⟨x, hx⟩ : ∃ x, S.vols[k]? = some x := ⟨_, List.getElem?_eq_getElem hlt⟩
      have HW := Lib.hid (HB.out.next hbw)
      obtain ⟨g1, rfl, hg1, e0, e1, e2⟩ := vi_cells HW.out.v1 hx
      obtain ⟨g2, rfl, hg2, y0, y1, y2⟩ := vi_cells HW.out.v2 hx
      have HG := Lib.hid (And.intro hg1 (And.intro hg2 (And.intro hx HB.out.bl)))
      have HCELL := Lib.hid (fun (W : World) (hb : Below wr.heap.size wr W) => (show W.cell? ⟨g1, k * 3, none⟩ = some (.int .i64 x.id) ∧ W.cell? ⟨g1, k * 3 + 1, none⟩ = some (.int .i64 x.tenant) ∧ W.cell? ⟨g1, k * 3 + 2, none⟩ = some (.int .i64 (cnt x.m : Int)) ∧ W.cell? ⟨g2, k * 3, none⟩ = some (.int .i64 x.id) ∧ W.cell? ⟨g2, k * 3 + 1, none⟩ = some (.int .i64 x.tenant) ∧ W.cell? ⟨g2, k * 3 + 2, none⟩ = some (.int .i64 (cnt x.m : Int)) from ⟨(hb.cell (p := ⟨g1, k * 3, none⟩) hg1).trans e0, (hb.cell (p := ⟨g1, k * 3 + 1, none⟩) hg1).trans e1, (hb.cell (p := ⟨g1, k * 3 + 2, none⟩) hg1).trans e2, (hb.cell (p := ⟨g2, k * 3, none⟩) hg2).trans y0, (hb.cell (p := ⟨g2, k * 3 + 1, none⟩) hg2).trans y1, (hb.cell (p := ⟨g2, k * 3 + 2, none⟩) hg2).trans y2⟩))
      clear hx e1 e2 y0 y1 y2 hg1 hg2
      go_upto_region 11 with (go_at_call 41; refine (contS_any p S x.id _ HW.out.sp).mono ?_; rintro e W2 ⟨r1, rfl, h2⟩)
      have HW2 := Lib.hid (HW.out.next h2.out.1)
      obtain ⟨a1, c1, rfl, _⟩ := id h2.out.2
      clear e0
      -- the specified one: the region draws its order
      have hS0 : W2.drew.cell? ⟨B, 0, none⟩ = some (.slice va S.vols.length vc) ∧ W2.drew.cell? ⟨B, 1, none⟩ = some (.slice sa S.snaps.length sc) ∧ W2.drew.cell? ⟨g2, k * 3, none⟩ = some (.int .i64 x.id) := ⟨cells_at HW2.out.bx 0, cells_at HW2.out.bx 1, (HCELL.out W2 h2.out.1).2.2.2.1⟩
      refine reg_begin (fun w' => w'.cell? ⟨B, 0, none⟩ = some (.slice va S.vols.length vc) ∧ w'.cell? ⟨B, 1, none⟩ = some (.slice sa S.snaps.length sc) ∧ w'.cell? ⟨g2, k * 3, none⟩ = some (.int .i64 x.id)) (by kernel_rfl) ?_
      (apply reg_take 0 rfl rfl (by decide +kernel) rfl); (rintro w' ⟨h1, h2, h3⟩; go_simp; rfl); exact hS0; simp only [List.setIfInBounds_toArray, List.set_cons_succ, List.set_cons_zero]
      (apply reg_take 1 rfl rfl (by decide +kernel) rfl); (rintro w' ⟨h1, h2, h3⟩; go_simp; rfl); exact hS0; simp only [List.setIfInBounds_toArray, List.set_cons_succ, List.set_cons_zero]
      (apply reg_take 2 rfl rfl (by decide +kernel) rfl); (rintro w' ⟨h1, h2, h3⟩; go_simp; rfl); exact hS0; simp only [List.setIfInBounds_toArray, List.set_cons_succ, List.set_cons_zero]
      (apply reg_take 3 rfl rfl (by decide +kernel) rfl); (rintro w' ⟨h1, h2, h3⟩; go_simp; rfl); exact hS0; simp only [List.setIfInBounds_toArray, List.set_cons_succ, List.set_cons_zero]
      (apply reg_take 4 rfl rfl (by decide +kernel) rfl); (rintro w' ⟨h1, h2, h3⟩; go_simp; rfl); exact hS0; simp only [List.setIfInBounds_toArray, List.set_cons_succ, List.set_cons_zero]
      (apply reg_take 5 rfl rfl (by decide +kernel) rfl); (rintro w' ⟨h1, h2, h3⟩; go_simp; rfl); exact hS0; simp only [List.setIfInBounds_toArray, List.set_cons_succ, List.set_cons_zero]
      have hdr : Below W2.heap.size W2 W2.drew := (Below.refl _ _).drew
      refine reg_call 6 rfl rfl (by decide +kernel) rfl (f := 42) (args := #[.agg #[.slice va S.vols.length vc, .slice sa S.snaps.length sc], .int .i64 x.id]) (R := fun v w' => ∃ r, v = .tuple #[r, .int .i64 (contM S x.id).2] ∧ Hid (Below W2.heap.size W2 w' ∧ RowsAt w' r (contM S x.id).1.length ((contM S x.id).1.flatMap refE))) (by kernel_rfl)
        ((rcont_any (.slice va S.vols.length vc) (.slice sa S.snaps.length sc) S x.id W2.drew (HW2.out.rf.below hdr) (by omega)).mono fun e w' h => by
          obtain ⟨r, h1, h3⟩ := h
          exact ⟨_, h1, r, rfl, hdr.trans h3.out.1, h3.out.2⟩) ?_
      rintro _ W3 ⟨r2, rfl, h3⟩
      obtain ⟨a2, c2, rfl, _⟩ := id h3.out.2
      have HW3 := Lib.hid (HW2.out.next h3.out.1)
      have hb3 : Below wr.heap.size wr W3 := h2.out.1.trans (h3.out.1.mono h2.out.1.size)
      have hS3 : W3.cell? ⟨B, 0, none⟩ = some (.slice va S.vols.length vc) ∧ W3.cell? ⟨B, 1, none⟩ = some (.slice sa S.snaps.length sc) ∧ W3.cell? ⟨g2, k * 3, none⟩ = some (.int .i64 x.id) := ⟨cells_at HW3.out.bx 0, cells_at HW3.out.bx 1, (HCELL.out W3 hb3).2.2.2.1⟩
      refine ⟨hS3, ?_⟩
      simp only [List.setIfInBounds_toArray, List.set_cons_succ, List.set_cons_zero]
      (apply reg_take 7 rfl rfl (by decide +kernel) rfl); (rintro w' ⟨h1, h2, h3⟩; go_simp; rfl); exact hS3; simp only [List.setIfInBounds_toArray, List.set_cons_succ, List.set_cons_zero]
      (apply reg_take 8 rfl rfl (by decide +kernel) rfl); (rintro w' ⟨h1, h2, h3⟩; go_simp; rfl); exact hS3; simp only [List.setIfInBounds_toArray, List.set_cons_succ, List.set_cons_zero]
      (apply reg_take 9 rfl rfl (by decide +kernel) rfl); (rintro w' ⟨h1, h2, h3⟩; go_simp; rfl); exact hS3; simp only [List.setIfInBounds_toArray, List.set_cons_succ, List.set_cons_zero]
      (apply reg_take 10 rfl rfl (by decide +kernel) rfl); (rintro w' ⟨h1, h2, h3⟩; go_simp; rfl); exact hS3; simp only [List.setIfInBounds_toArray, List.set_cons_succ, List.set_cons_zero]
      (apply reg_take 11 rfl rfl (by decide +kernel) rfl); (rintro w' ⟨h1, h2, h3⟩; go_simp; rfl); exact hS3; simp only [List.setIfInBounds_toArray, List.set_cons_succ, List.set_cons_zero]
      refine reg_done (by decide +kernel) ?_
      have HR := Lib.hid (And.intro (h2.out.2.below h3.out.1) (And.intro h3.out.2 (And.intro hb3 h3.out.1)))
      clear hS0 hS3 h2 h3 hb3 hdr
      go_upto_region 12 with (fail)
      have hS5 : W3.drew.cell? ⟨g1, k * 3, none⟩ = some (.int .i64 x.id) ∧ W3.drew.cell? ⟨g1, k * 3 + 1, none⟩ = some (.int .i64 x.tenant) ∧ W3.drew.cell? ⟨g1, k * 3 + 2, none⟩ = some (.int .i64 (cnt x.m : Int)) ∧ W3.drew.cell? ⟨g2, k * 3, none⟩ = some (.int .i64 x.id) ∧ W3.drew.cell? ⟨g2, k * 3 + 1, none⟩ = some (.int .i64 x.tenant) ∧ W3.drew.cell? ⟨g2, k * 3 + 2, none⟩ = some (.int .i64 (cnt x.m : Int)) := HCELL.out W3 HR.out.2.2.1
      refine reg_begin (fun w' => w'.cell? ⟨g1, k * 3, none⟩ = some (.int .i64 x.id) ∧ w'.cell? ⟨g1, k * 3 + 1, none⟩ = some (.int .i64 x.tenant) ∧ w'.cell? ⟨g1, k * 3 + 2, none⟩ = some (.int .i64 (cnt x.m : Int)) ∧ w'.cell? ⟨g2, k * 3, none⟩ = some (.int .i64 x.id) ∧ w'.cell? ⟨g2, k * 3 + 1, none⟩ = some (.int .i64 x.tenant) ∧ w'.cell? ⟨g2, k * 3 + 2, none⟩ = some (.int .i64 (cnt x.m : Int))) (by kernel_rfl) ?_
      (apply reg_take 0 rfl rfl (by decide +kernel) rfl); (rintro w' ⟨h1, h2, h3, h4, h5, h6⟩; go_simp; rfl); exact hS5; simp only [List.setIfInBounds_toArray, List.set_cons_succ, List.set_cons_zero]
      (apply reg_take 1 rfl rfl (by decide +kernel) rfl); (rintro w' ⟨h1, h2, h3, h4, h5, h6⟩; go_simp; rfl); exact hS5; simp only [List.setIfInBounds_toArray, List.set_cons_succ, List.set_cons_zero]
      (apply reg_take 2 rfl rfl (by decide +kernel) rfl); (rintro w' ⟨h1, h2, h3, h4, h5, h6⟩; go_simp; rfl); exact hS5; simp only [List.setIfInBounds_toArray, List.set_cons_succ, List.set_cons_zero]
      (apply reg_take 3 rfl rfl (by decide +kernel) rfl); (rintro w' ⟨h1, h2, h3, h4, h5, h6⟩; go_simp; rfl); exact hS5; simp only [List.setIfInBounds_toArray, List.set_cons_succ, List.set_cons_zero]
      (apply reg_take 4 rfl rfl (by decide +kernel) rfl); (rintro w' ⟨h1, h2, h3, h4, h5, h6⟩; go_simp; rfl); exact hS5; simp only [List.setIfInBounds_toArray, List.set_cons_succ, List.set_cons_zero]
      (apply reg_take 5 rfl rfl (by decide +kernel) rfl); (rintro w' ⟨h1, h2, h3, h4, h5, h6⟩; go_simp; rfl); exact hS5; simp only [List.setIfInBounds_toArray, List.set_cons_succ, List.set_cons_zero]
      (apply reg_take 6 rfl rfl (by decide +kernel) rfl); (rintro w' ⟨h1, h2, h3, h4, h5, h6⟩; go_simp; rfl); exact hS5; simp only [List.setIfInBounds_toArray, List.set_cons_succ, List.set_cons_zero]
      (apply reg_take 7 rfl rfl (by decide +kernel) rfl); (rintro w' ⟨h1, h2, h3, h4, h5, h6⟩; go_simp; rfl); exact hS5; simp only [List.setIfInBounds_toArray, List.set_cons_succ, List.set_cons_zero]
      (apply reg_take 8 rfl rfl (by decide +kernel) rfl); (rintro w' ⟨h1, h2, h3, h4, h5, h6⟩; go_simp; rfl); exact hS5; simp only [List.setIfInBounds_toArray, List.set_cons_succ, List.set_cons_zero]
      (apply reg_take 9 rfl rfl (by decide +kernel) rfl); (rintro w' ⟨h1, h2, h3, h4, h5, h6⟩; go_simp; rfl); exact hS5; simp only [List.setIfInBounds_toArray, List.set_cons_succ, List.set_cons_zero]
      (apply reg_take 10 rfl rfl (by decide +kernel) rfl); (rintro w' ⟨h1, h2, h3, h4, h5, h6⟩; go_simp; rfl); exact hS5; simp only [List.setIfInBounds_toArray, List.set_cons_succ, List.set_cons_zero]
      (apply reg_take 11 rfl rfl (by decide +kernel) rfl); (rintro w' ⟨h1, h2, h3, h4, h5, h6⟩; go_simp; rfl); exact hS5; simp only [List.setIfInBounds_toArray, List.set_cons_succ, List.set_cons_zero]
      (apply reg_take 12 rfl rfl (by decide +kernel) rfl); (rintro w' ⟨h1, h2, h3, h4, h5, h6⟩; go_simp; rfl); exact hS5; simp only [List.setIfInBounds_toArray, List.set_cons_succ, List.set_cons_zero]
      (apply reg_take 13 rfl rfl (by decide +kernel) rfl); (rintro w' ⟨h1, h2, h3, h4, h5, h6⟩; go_simp; rfl); exact hS5; simp only [List.setIfInBounds_toArray, List.set_cons_succ, List.set_cons_zero]
      (apply reg_take 14 rfl rfl (by decide +kernel) rfl); (rintro w' ⟨h1, h2, h3, h4, h5, h6⟩; go_simp; rfl); exact hS5; simp only [List.setIfInBounds_toArray, List.set_cons_succ, List.set_cons_zero]
      (apply reg_take 15 rfl rfl (by decide +kernel) rfl); (rintro w' ⟨h1, h2, h3, h4, h5, h6⟩; go_simp; rfl); exact hS5; simp only [List.setIfInBounds_toArray, List.set_cons_succ, List.set_cons_zero]
      (apply reg_take 16 rfl rfl (by decide +kernel) rfl); (rintro w' ⟨h1, h2, h3, h4, h5, h6⟩; go_simp; rfl); exact hS5; simp only [List.setIfInBounds_toArray, List.set_cons_succ, List.set_cons_zero]
      have hdr : Below W3.heap.size W3 W3.drew := (Below.refl _ _).drew
      refine reg_call 17 rfl rfl (by decide +kernel) rfl (f := 43) (args := #[.slice a1 (contM S x.id).1.length c1, .slice a2 (contM S x.id).1.length c2]) (R := fun v w' => v = .bool true ∧ Hid (Below W3.heap.size W3 w')) (by kernel_rfl)
        ((maps_any (.slice a1 (contM S x.id).1.length c1) (.slice a2 (contM S x.id).1.length c2) (contM S x.id).1 (contM S x.id).1 W3.drew (HR.out.1.below hdr) (HR.out.2.1.below hdr)).mono fun e w' h => ⟨_, h.1, by rw [decide_eq_true rfl], hdr.trans h.2⟩) ?_
      rintro _ W4 ⟨rfl, h4⟩
      have hS6 : W4.cell? ⟨g1, k * 3, none⟩ = some (.int .i64 x.id) ∧ W4.cell? ⟨g1, k * 3 + 1, none⟩ = some (.int .i64 x.tenant) ∧ W4.cell? ⟨g1, k * 3 + 2, none⟩ = some (.int .i64 (cnt x.m : Int)) ∧ W4.cell? ⟨g2, k * 3, none⟩ = some (.int .i64 x.id) ∧ W4.cell? ⟨g2, k * 3 + 1, none⟩ = some (.int .i64 x.tenant) ∧ W4.cell? ⟨g2, k * 3 + 2, none⟩ = some (.int .i64 (cnt x.m : Int)) := HCELL.out W4 (HR.out.2.2.1.trans (h4.out.mono HR.out.2.2.1.size))
      refine ⟨hS6, ?_⟩
      simp only [List.setIfInBounds_toArray, List.set_cons_succ, List.set_cons_zero]
      (apply reg_take 18 rfl rfl (by decide +kernel) rfl); (rintro w' ⟨h1, h2, h3, h4, h5, h6⟩; go_simp; rfl); exact hS6; simp only [List.setIfInBounds_toArray, List.set_cons_succ, List.set_cons_zero]
      (apply reg_take 19 rfl rfl (by decide +kernel) rfl); (rintro w' ⟨h1, h2, h3, h4, h5, h6⟩; go_simp; rfl); exact hS6; simp only [List.setIfInBounds_toArray, List.set_cons_succ, List.set_cons_zero]
      refine reg_done (by decide +kernel) ?_
      have HZ := Lib.hid ((hbw.trans (HR.out.2.2.1.mono hbw.size)).trans (h4.out.mono (hbw.trans (HR.out.2.2.1.mono hbw.size)).size))
      clear hS5 hS6 h4 hbw hdr
      go_wp2
      refine ⟨⟨⟨k + 1, by omega, by rw [Int.natCast_add]; rfl, HZ.out⟩⟩, by simp only [intOf]; omega⟩
    · have hke : k = S.vols.length := by omega
      have hltd : decide ((k : Int) < (S.vols.length : Int)) = false := decide_eq_false (by omega)
    
      have HB2 := Lib.hid (HB.out.next hbw)
      clear HB hbw
      go_wp2
      clear hke hltd hlt hk
      go_loopw [14] (fun i wr' => SmSt wr S.snaps.length i wr') (fun i _ => S.snaps.length - (intOf i).toNat)
      case atStart => exact ⟨⟨0, Nat.zero_le _, rfl, Below.refl _ _⟩⟩
      case round =>
        obtain ⟨k, hk, rfl, hbw⟩ := hrel.st
        clear hrel
        by_cases hlt : k < S.snaps.length
        · have hltd : decide ((k : Int) < (S.snaps.length : Int)) = true := decide_eq_true (by omega)
          have hki : (k : Int) ≤ 1000 := by omega
          obtain ⟨x, hx⟩ : ∃ x, S.snaps[k]? = some x := ⟨_, List.getElem?_eq_getElem hlt⟩
          have HW := Lib.hid (HB2.out.next hbw)
          obtain ⟨g1, rfl, hg1, e0, e1, e2, e3⟩ := si_cells HW.out.s1 hx
          obtain ⟨g2, rfl, hg2, y0, y1, y2, y3⟩ := si_cells HW.out.s2 hx
          have HG := Lib.hid (And.intro hg1 (And.intro hg2 (And.intro hx HB2.out.bl)))
          have HCELL := Lib.hid (fun (W : World) (hb : Below wr.heap.size wr W) => (show W.cell? ⟨g1, k * 4, none⟩ = some (.int .i64 x.id) ∧ W.cell? ⟨g1, k * 4 + 1, none⟩ = some (.int .i64 x.src) ∧ W.cell? ⟨g1, k * 4 + 2, none⟩ = some (.int .i64 x.tenant) ∧ W.cell? ⟨g1, k * 4 + 3, none⟩ = some (.int .i64 (cnt x.m : Int)) ∧ W.cell? ⟨g2, k * 4, none⟩ = some (.int .i64 x.id) ∧ W.cell? ⟨g2, k * 4 + 1, none⟩ = some (.int .i64 x.src) ∧ W.cell? ⟨g2, k * 4 + 2, none⟩ = some (.int .i64 x.tenant) ∧ W.cell? ⟨g2, k * 4 + 3, none⟩ = some (.int .i64 (cnt x.m : Int)) from ⟨(hb.cell (p := ⟨g1, k * 4, none⟩) hg1).trans e0, (hb.cell (p := ⟨g1, k * 4 + 1, none⟩) hg1).trans e1, (hb.cell (p := ⟨g1, k * 4 + 2, none⟩) hg1).trans e2, (hb.cell (p := ⟨g1, k * 4 + 3, none⟩) hg1).trans e3, (hb.cell (p := ⟨g2, k * 4, none⟩) hg2).trans y0, (hb.cell (p := ⟨g2, k * 4 + 1, none⟩) hg2).trans y1, (hb.cell (p := ⟨g2, k * 4 + 2, none⟩) hg2).trans y2, (hb.cell (p := ⟨g2, k * 4 + 3, none⟩) hg2).trans y3⟩))
          clear hx e1 e2 e3 y0 y1 y2 y3 hg1 hg2
          go_upto_region 18 with (go_at_call 44; refine (imgS_any p S x.id _ HW.out.sp).mono ?_; rintro e W2 ⟨r1, rfl, h2⟩)
          have HW2 := Lib.hid (HW.out.next h2.out.1)
          obtain ⟨a1, c1, rfl, _⟩ := id h2.out.2
          clear e0
          -- the specified one: the region draws its order
          have hS0 : W2.drew.cell? ⟨B, 0, none⟩ = some (.slice va S.vols.length vc) ∧ W2.drew.cell? ⟨B, 1, none⟩ = some (.slice sa S.snaps.length sc) ∧ W2.drew.cell? ⟨g2, k * 4, none⟩ = some (.int .i64 x.id) := ⟨cells_at HW2.out.bx 0, cells_at HW2.out.bx 1, (HCELL.out W2 h2.out.1).2.2.2.2.1⟩
          refine reg_begin (fun w' => w'.cell? ⟨B, 0, none⟩ = some (.slice va S.vols.length vc) ∧ w'.cell? ⟨B, 1, none⟩ = some (.slice sa S.snaps.length sc) ∧ w'.cell? ⟨g2, k * 4, none⟩ = some (.int .i64 x.id)) (by kernel_rfl) ?_
          (apply reg_take 0 rfl rfl (by decide +kernel) rfl); (rintro w' ⟨h1, h2, h3⟩; go_simp; rfl); exact hS0; simp only [List.setIfInBounds_toArray, List.set_cons_succ, List.set_cons_zero]
          (apply reg_take 1 rfl rfl (by decide +kernel) rfl); (rintro w' ⟨h1, h2, h3⟩; go_simp; rfl); exact hS0; simp only [List.setIfInBounds_toArray, List.set_cons_succ, List.set_cons_zero]
          (apply reg_take 2 rfl rfl (by decide +kernel) rfl); (rintro w' ⟨h1, h2, h3⟩; go_simp; rfl); exact hS0; simp only [List.setIfInBounds_toArray, List.set_cons_succ, List.set_cons_zero]
          (apply reg_take 3 rfl rfl (by decide +kernel) rfl); (rintro w' ⟨h1, h2, h3⟩; go_simp; rfl); exact hS0; simp only [List.setIfInBounds_toArray, List.set_cons_succ, List.set_cons_zero]
          (apply reg_take 4 rfl rfl (by decide +kernel) rfl); (rintro w' ⟨h1, h2, h3⟩; go_simp; rfl); exact hS0; simp only [List.setIfInBounds_toArray, List.set_cons_succ, List.set_cons_zero]
          (apply reg_take 5 rfl rfl (by decide +kernel) rfl); (rintro w' ⟨h1, h2, h3⟩; go_simp; rfl); exact hS0; simp only [List.setIfInBounds_toArray, List.set_cons_succ, List.set_cons_zero]
          have hdr : Below W2.heap.size W2 W2.drew := (Below.refl _ _).drew
          refine reg_call 6 rfl rfl (by decide +kernel) rfl (f := 45) (args := #[.agg #[.slice va S.vols.length vc, .slice sa S.snaps.length sc], .int .i64 x.id]) (R := fun v w' => ∃ r, v = .tuple #[r, .int .i64 (imageM S x.id).2] ∧ Hid (Below W2.heap.size W2 w' ∧ RowsAt w' r (imageM S x.id).1.length ((imageM S x.id).1.flatMap refE))) (by kernel_rfl)
            ((rimg_any (.slice va S.vols.length vc) (.slice sa S.snaps.length sc) S x.id W2.drew (HW2.out.rf.below hdr) (by omega)).mono fun e w' h => by
              obtain ⟨r, h1, h3⟩ := h
              exact ⟨_, h1, r, rfl, hdr.trans h3.out.1, h3.out.2⟩) ?_
          rintro _ W3 ⟨r2, rfl, h3⟩
          obtain ⟨a2, c2, rfl, _⟩ := id h3.out.2
          have HW3 := Lib.hid (HW2.out.next h3.out.1)
          have hb3 : Below wr.heap.size wr W3 := h2.out.1.trans (h3.out.1.mono h2.out.1.size)
          have hS3 : W3.cell? ⟨B, 0, none⟩ = some (.slice va S.vols.length vc) ∧ W3.cell? ⟨B, 1, none⟩ = some (.slice sa S.snaps.length sc) ∧ W3.cell? ⟨g2, k * 4, none⟩ = some (.int .i64 x.id) := ⟨cells_at HW3.out.bx 0, cells_at HW3.out.bx 1, (HCELL.out W3 hb3).2.2.2.2.1⟩
          refine ⟨hS3, ?_⟩
          simp only [List.setIfInBounds_toArray, List.set_cons_succ, List.set_cons_zero]
          (apply reg_take 7 rfl rfl (by decide +kernel) rfl); (rintro w' ⟨h1, h2, h3⟩; go_simp; rfl); exact hS3; simp only [List.setIfInBounds_toArray, List.set_cons_succ, List.set_cons_zero]
          (apply reg_take 8 rfl rfl (by decide +kernel) rfl); (rintro w' ⟨h1, h2, h3⟩; go_simp; rfl); exact hS3; simp only [List.setIfInBounds_toArray, List.set_cons_succ, List.set_cons_zero]
          (apply reg_take 9 rfl rfl (by decide +kernel) rfl); (rintro w' ⟨h1, h2, h3⟩; go_simp; rfl); exact hS3; simp only [List.setIfInBounds_toArray, List.set_cons_succ, List.set_cons_zero]
          (apply reg_take 10 rfl rfl (by decide +kernel) rfl); (rintro w' ⟨h1, h2, h3⟩; go_simp; rfl); exact hS3; simp only [List.setIfInBounds_toArray, List.set_cons_succ, List.set_cons_zero]
          (apply reg_take 11 rfl rfl (by decide +kernel) rfl); (rintro w' ⟨h1, h2, h3⟩; go_simp; rfl); exact hS3; simp only [List.setIfInBounds_toArray, List.set_cons_succ, List.set_cons_zero]
          refine reg_done (by decide +kernel) ?_
          have HR := Lib.hid (And.intro (h2.out.2.below h3.out.1) (And.intro h3.out.2 (And.intro hb3 h3.out.1)))
          clear hS0 hS3 h2 h3 hb3 hdr
          go_upto_region 19 with (fail)
          have hS5 : W3.drew.cell? ⟨g1, k * 4, none⟩ = some (.int .i64 x.id) ∧ W3.drew.cell? ⟨g1, k * 4 + 1, none⟩ = some (.int .i64 x.src) ∧ W3.drew.cell? ⟨g1, k * 4 + 2, none⟩ = some (.int .i64 x.tenant) ∧ W3.drew.cell? ⟨g1, k * 4 + 3, none⟩ = some (.int .i64 (cnt x.m : Int)) ∧ W3.drew.cell? ⟨g2, k * 4, none⟩ = some (.int .i64 x.id) ∧ W3.drew.cell? ⟨g2, k * 4 + 1, none⟩ = some (.int .i64 x.src) ∧ W3.drew.cell? ⟨g2, k * 4 + 2, none⟩ = some (.int .i64 x.tenant) ∧ W3.drew.cell? ⟨g2, k * 4 + 3, none⟩ = some (.int .i64 (cnt x.m : Int)) := HCELL.out W3 HR.out.2.2.1
          refine reg_begin (fun w' => w'.cell? ⟨g1, k * 4, none⟩ = some (.int .i64 x.id) ∧ w'.cell? ⟨g1, k * 4 + 1, none⟩ = some (.int .i64 x.src) ∧ w'.cell? ⟨g1, k * 4 + 2, none⟩ = some (.int .i64 x.tenant) ∧ w'.cell? ⟨g1, k * 4 + 3, none⟩ = some (.int .i64 (cnt x.m : Int)) ∧ w'.cell? ⟨g2, k * 4, none⟩ = some (.int .i64 x.id) ∧ w'.cell? ⟨g2, k * 4 + 1, none⟩ = some (.int .i64 x.src) ∧ w'.cell? ⟨g2, k * 4 + 2, none⟩ = some (.int .i64 x.tenant) ∧ w'.cell? ⟨g2, k * 4 + 3, none⟩ = some (.int .i64 (cnt x.m : Int))) (by kernel_rfl) ?_
          (apply reg_take 0 rfl rfl (by decide +kernel) rfl); (rintro w' ⟨h1, h2, h3, h4, h5, h6, h7, h8⟩; go_simp; rfl); exact hS5; simp only [List.setIfInBounds_toArray, List.set_cons_succ, List.set_cons_zero]
          (apply reg_take 1 rfl rfl (by decide +kernel) rfl); (rintro w' ⟨h1, h2, h3, h4, h5, h6, h7, h8⟩; go_simp; rfl); exact hS5; simp only [List.setIfInBounds_toArray, List.set_cons_succ, List.set_cons_zero]
          (apply reg_take 2 rfl rfl (by decide +kernel) rfl); (rintro w' ⟨h1, h2, h3, h4, h5, h6, h7, h8⟩; go_simp; rfl); exact hS5; simp only [List.setIfInBounds_toArray, List.set_cons_succ, List.set_cons_zero]
          (apply reg_take 3 rfl rfl (by decide +kernel) rfl); (rintro w' ⟨h1, h2, h3, h4, h5, h6, h7, h8⟩; go_simp; rfl); exact hS5; simp only [List.setIfInBounds_toArray, List.set_cons_succ, List.set_cons_zero]
          (apply reg_take 4 rfl rfl (by decide +kernel) rfl); (rintro w' ⟨h1, h2, h3, h4, h5, h6, h7, h8⟩; go_simp; rfl); exact hS5; simp only [List.setIfInBounds_toArray, List.set_cons_succ, List.set_cons_zero]
          (apply reg_take 5 rfl rfl (by decide +kernel) rfl); (rintro w' ⟨h1, h2, h3, h4, h5, h6, h7, h8⟩; go_simp; rfl); exact hS5; simp only [List.setIfInBounds_toArray, List.set_cons_succ, List.set_cons_zero]
          (apply reg_take 6 rfl rfl (by decide +kernel) rfl); (rintro w' ⟨h1, h2, h3, h4, h5, h6, h7, h8⟩; go_simp; rfl); exact hS5; simp only [List.setIfInBounds_toArray, List.set_cons_succ, List.set_cons_zero]
          (apply reg_take 7 rfl rfl (by decide +kernel) rfl); (rintro w' ⟨h1, h2, h3, h4, h5, h6, h7, h8⟩; go_simp; rfl); exact hS5; simp only [List.setIfInBounds_toArray, List.set_cons_succ, List.set_cons_zero]
          (apply reg_take 8 rfl rfl (by decide +kernel) rfl); (rintro w' ⟨h1, h2, h3, h4, h5, h6, h7, h8⟩; go_simp; rfl); exact hS5; simp only [List.setIfInBounds_toArray, List.set_cons_succ, List.set_cons_zero]
          (apply reg_take 9 rfl rfl (by decide +kernel) rfl); (rintro w' ⟨h1, h2, h3, h4, h5, h6, h7, h8⟩; go_simp; rfl); exact hS5; simp only [List.setIfInBounds_toArray, List.set_cons_succ, List.set_cons_zero]
          (apply reg_take 10 rfl rfl (by decide +kernel) rfl); (rintro w' ⟨h1, h2, h3, h4, h5, h6, h7, h8⟩; go_simp; rfl); exact hS5; simp only [List.setIfInBounds_toArray, List.set_cons_succ, List.set_cons_zero]
          (apply reg_take 11 rfl rfl (by decide +kernel) rfl); (rintro w' ⟨h1, h2, h3, h4, h5, h6, h7, h8⟩; go_simp; rfl); exact hS5; simp only [List.setIfInBounds_toArray, List.set_cons_succ, List.set_cons_zero]
          (apply reg_take 12 rfl rfl (by decide +kernel) rfl); (rintro w' ⟨h1, h2, h3, h4, h5, h6, h7, h8⟩; go_simp; rfl); exact hS5; simp only [List.setIfInBounds_toArray, List.set_cons_succ, List.set_cons_zero]
          (apply reg_take 13 rfl rfl (by decide +kernel) rfl); (rintro w' ⟨h1, h2, h3, h4, h5, h6, h7, h8⟩; go_simp; rfl); exact hS5; simp only [List.setIfInBounds_toArray, List.set_cons_succ, List.set_cons_zero]
          (apply reg_take 14 rfl rfl (by decide +kernel) rfl); (rintro w' ⟨h1, h2, h3, h4, h5, h6, h7, h8⟩; go_simp; rfl); exact hS5; simp only [List.setIfInBounds_toArray, List.set_cons_succ, List.set_cons_zero]
          (apply reg_take 15 rfl rfl (by decide +kernel) rfl); (rintro w' ⟨h1, h2, h3, h4, h5, h6, h7, h8⟩; go_simp; rfl); exact hS5; simp only [List.setIfInBounds_toArray, List.set_cons_succ, List.set_cons_zero]
          (apply reg_take 16 rfl rfl (by decide +kernel) rfl); (rintro w' ⟨h1, h2, h3, h4, h5, h6, h7, h8⟩; go_simp; rfl); exact hS5; simp only [List.setIfInBounds_toArray, List.set_cons_succ, List.set_cons_zero]
          have hdr : Below W3.heap.size W3 W3.drew := (Below.refl _ _).drew
          refine reg_call 17 rfl rfl (by decide +kernel) rfl (f := 43) (args := #[.slice a1 (imageM S x.id).1.length c1, .slice a2 (imageM S x.id).1.length c2]) (R := fun v w' => v = .bool true ∧ Hid (Below W3.heap.size W3 w')) (by kernel_rfl)
            ((maps_any (.slice a1 (imageM S x.id).1.length c1) (.slice a2 (imageM S x.id).1.length c2) (imageM S x.id).1 (imageM S x.id).1 W3.drew (HR.out.1.below hdr) (HR.out.2.1.below hdr)).mono fun e w' h => ⟨_, h.1, by rw [decide_eq_true rfl], hdr.trans h.2⟩) ?_
          rintro _ W4 ⟨rfl, h4⟩
          have hS6 : W4.cell? ⟨g1, k * 4, none⟩ = some (.int .i64 x.id) ∧ W4.cell? ⟨g1, k * 4 + 1, none⟩ = some (.int .i64 x.src) ∧ W4.cell? ⟨g1, k * 4 + 2, none⟩ = some (.int .i64 x.tenant) ∧ W4.cell? ⟨g1, k * 4 + 3, none⟩ = some (.int .i64 (cnt x.m : Int)) ∧ W4.cell? ⟨g2, k * 4, none⟩ = some (.int .i64 x.id) ∧ W4.cell? ⟨g2, k * 4 + 1, none⟩ = some (.int .i64 x.src) ∧ W4.cell? ⟨g2, k * 4 + 2, none⟩ = some (.int .i64 x.tenant) ∧ W4.cell? ⟨g2, k * 4 + 3, none⟩ = some (.int .i64 (cnt x.m : Int)) := HCELL.out W4 (HR.out.2.2.1.trans (h4.out.mono HR.out.2.2.1.size))
          refine ⟨hS6, ?_⟩
          simp only [List.setIfInBounds_toArray, List.set_cons_succ, List.set_cons_zero]
          (apply reg_take 18 rfl rfl (by decide +kernel) rfl); (rintro w' ⟨h1, h2, h3, h4, h5, h6, h7, h8⟩; go_simp; rfl); exact hS6; simp only [List.setIfInBounds_toArray, List.set_cons_succ, List.set_cons_zero]
          (apply reg_take 19 rfl rfl (by decide +kernel) rfl); (rintro w' ⟨h1, h2, h3, h4, h5, h6, h7, h8⟩; go_simp; rfl); exact hS6; simp only [List.setIfInBounds_toArray, List.set_cons_succ, List.set_cons_zero]
          refine reg_done (by decide +kernel) ?_
          have HZ := Lib.hid ((hbw.trans (HR.out.2.2.1.mono hbw.size)).trans (h4.out.mono (hbw.trans (HR.out.2.2.1.mono hbw.size)).size))
          clear hS5 hS6 h4 hbw hdr
          go_wp2
          refine ⟨⟨⟨k + 1, by omega, by rw [Int.natCast_add]; rfl, HZ.out⟩⟩, by simp only [intOf]; omega⟩
        · have hke : k = S.snaps.length := by omega
          have hltd : decide ((k : Int) < (S.snaps.length : Int)) = false := decide_eq_false (by omega)
        
          have HB3 := Lib.hid (HB2.out.next hbw).bl
          clear hbw
          go_wp2
          go_ret
          exact ⟨rfl, HB3.out⟩
end Go.Proofs.YtednjhlkhecihaaGreatDoor
