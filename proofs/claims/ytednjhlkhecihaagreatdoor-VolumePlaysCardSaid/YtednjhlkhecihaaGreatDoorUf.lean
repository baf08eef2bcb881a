/- solventlaw27.spec. Printed by uf.py. -/
import Derived.Test.YtednjhlkhecihaaGreatDoorUe
import Derived.Test.YtednjhlkhecihaaGreatDoorWd
namespace Go.Proofs.YtednjhlkhecihaaGreatDoor
open Go.RowKit Go.Vol Go.Sl

/-- The four boxes of spec: the space, the operation, the result, the space behind. -/
def Spc (w W : World) (B : Nat) (v s : Value) (op : List Value) (r0 r1 n0 n1 : Value) : Prop :=
  Same w W ∧ Sat W (pts B (.cells #[v, s] TRS (0, 0)) * (pts (B + 1) (.cells op.toArray TVOp (0, 0)) * (pts (B + 2) (.cells #[r0, r1] TRS (0, 0)) * (pts (B + 3) (.cells #[n0, n1] TRS (0, 0)) * old w))))
section
variable {w W : World} {B : Nat} {v s r0 r1 n0 n1 : Value} {op : List Value}
theorem Spc.below (h : Spc w W B v s op r0 r1 n0 n1) : Below w.heap.size w W := h.1.below_of (h.2.perm (show _ = (pts B (.cells #[v, s] TRS (0, 0)) * (pts (B + 1) (.cells op.toArray TVOp (0, 0)) * (pts (B + 2) (.cells #[r0, r1] TRS (0, 0)) * pts (B + 3) (.cells #[n0, n1] TRS (0, 0))))) * old w from by ac_rfl))
theorem Spc.next {W' : World} (h : Spc w W B v s op r0 r1 n0 n1) (hb : Below W.heap.size W W') : Spc w W' B v s op r0 r1 n0 n1 := ⟨h.1.trans (same_below hb), h.2.keep hb.block⟩
theorem Spc.setN (h : Spc w W B v s op r0 r1 n0 n1) (x y : Value) : Spc w ((W.setCell ⟨B + 3, 0, none⟩ x).setCell ⟨B + 3, 1, none⟩ y) B v s op r0 r1 x y := by
  have h1 := h.2.perm (show _ = pts (B + 3) (.cells #[n0, n1] TRS (0, 0)) * (pts B (.cells #[v, s] TRS (0, 0)) * (pts (B + 1) (.cells op.toArray TVOp (0, 0)) * (pts (B + 2) (.cells #[r0, r1] TRS (0, 0)) * old w))) from by ac_rfl)
  exact ⟨(h.1.setCell _ _).setCell _ _, ((h1.setCell (i := 0) x).setCell (i := 1) y).perm (by show pts (B + 3) (.cells #[x, y] TRS (0, 0)) * _ = _; ac_rfl)⟩
theorem Spc.setR (h : Spc w W B v s op r0 r1 n0 n1) (x y : Value) : Spc w ((W.setCell ⟨B + 2, 0, none⟩ x).setCell ⟨B + 2, 1, none⟩ y) B v s op x y n0 n1 := by
  have h1 := h.2.perm (show _ = pts (B + 2) (.cells #[r0, r1] TRS (0, 0)) * (pts B (.cells #[v, s] TRS (0, 0)) * (pts (B + 1) (.cells op.toArray TVOp (0, 0)) * (pts (B + 3) (.cells #[n0, n1] TRS (0, 0)) * old w))) from by ac_rfl)
  exact ⟨(h.1.setCell _ _).setCell _ _, ((h1.setCell (i := 0) x).setCell (i := 1) y).perm (by show pts (B + 2) (.cells #[x, y] TRS (0, 0)) * _ = _; ac_rfl)⟩
theorem Spc.b0 (h : Spc w W B v s op r0 r1 n0 n1) : W.heap[B]? = some (.cells #[v, s] TRS (0, 0)) := h.2.block
theorem Spc.b1 (h : Spc w W B v s op r0 r1 n0 n1) : W.heap[B + 1]? = some (.cells op.toArray TVOp (0, 0)) := h.2.right.block
theorem Spc.b2 (h : Spc w W B v s op r0 r1 n0 n1) : W.heap[B + 2]? = some (.cells #[r0, r1] TRS (0, 0)) := h.2.right.right.block
theorem Spc.b3 (h : Spc w W B v s op r0 r1 n0 n1) : W.heap[B + 3]? = some (.cells #[n0, n1] TRS (0, 0)) := h.2.right.right.right.block
end
theorem spc_new (w : World) (a b c d e f : Value) : Spc w ((((w.alloc (.cells #[a, b] TRS)).alloc (.cells #[c, d, e, f] TVOp)).alloc (.cells #[.slice none 0 0, .slice none 0 0] TRS)).alloc (.cells #[a, b] TRS)) w.heap.size a b [c, d, e, f] (.slice none 0 0) (.slice none 0 0) a b := by
  refine ⟨((((Same.refl w).alloc _).alloc _).alloc _).alloc _, ?_⟩
  have h := ((((Sat.old w).alloc (.cells #[a, b] TRS)).alloc (.cells #[c, d, e, f] TVOp)).alloc (.cells #[.slice none 0 0, .slice none 0 0] TRS)).alloc (.cells #[a, b] TRS)
  simp only [World.size_alloc] at h
  rw [show w.heap.size + 1 + 1 + 1 = w.heap.size + 3 from rfl, show w.heap.size + 1 + 1 = w.heap.size + 2 from rfl] at h
  exact h.perm (show _ = pts w.heap.size (.cells #[a, b] TRS (0, 0)) * (pts (w.heap.size + 1) (.cells #[c, d, e, f] TVOp (0, 0)) * (pts (w.heap.size + 2) (.cells #[.slice none 0 0, .slice none 0 0] TRS (0, 0)) * (pts (w.heap.size + 3) (.cells #[a, b] TRS (0, 0)) * old w))) from by ac_rfl)
theorem finS {ok pr : Nat → Prop} {w W3 Wf : World} {vv vs : Value} {B : Nat} {S : SpaceM} (hp : ∀ b, pr b → b ≠ B + 2 ∧ b ≠ B + 3 ∧ newer ok w b) (h : RefAt pr W3 vv vs S) (hs : W3.heap.size ≤ Wf.heap.size) (hk : ∀ k, k ≠ B + 2 → k ≠ B + 3 → Wf.heap[k]? = W3.heap[k]?) : RefAt (newer ok w) Wf vv vs S :=
  (h.keep hs fun b hb _ => hk b (hp b hb).1 (hp b hb).2.1).weaken fun b hb _ => (hp b hb).2.2
/-- What spec answers. -/
def SpecOut (ok : Nat → Prop) (w : World) (S : SpaceM) (o : VOp) (e : Ending) (w' : World) : Prop := ∃ a b, e = .returned (.tuple #[.agg #[a, b], .int .i64 (stepM S o).id, .int .i64 (stepM S o).e]) ∧ Hid (Below w.heap.size w w' ∧ RefAt (newer ok w) w' a b (doM S o))

set_option maxRecDepth 20000 in
set_option maxHeartbeats 4000000 in
theorem spec1_any {ok : Nat → Prop} (vv vs : Value) (S : SpaceM) (a b c : Int) (w : World) (hS : RefAt ok w vv vs S) (hwf : S.WF) :
    Calls Tryz.prog 7 #[.agg #[vv, vs], .agg #[.int .i64 1, .int .i64 a, .int .i64 b, .int .i64 c]] w (SpecOut ok w S ⟨1, a, b, c⟩) := by
  obtain ⟨va, vc, rfl, _⟩ := hS.v.slice
  obtain ⟨sa, sc, rfl, _⟩ := hS.s.slice
  have HS := Lib.hid (And.intro hS hwf)
  have H0 := Lib.hid (spc_new w (.slice va S.vols.length vc) (.slice sa S.snaps.length sc) (.int .i64 1) (.int .i64 a) (.int .i64 b) (.int .i64 c))
  clear hS hwf
  have hst : stepM S ⟨1, a, b, c⟩ = S.create a Vol.empty := by simp [stepM]
  have HC := Lib.hid (fun (W : World) (hb : Below w.heap.size w W) => rcreate_any (ok := fun b => ok b ∧ b < w.heap.size) (.slice va S.vols.length vc) (.slice sa S.snaps.length sc) S a W ⟨in_ref HS.out.1.v hb, in_ref HS.out.1.s hb⟩ HS.out.2)
  rcases (show (S.create a Vol.empty).Link from create_link S a Vol.empty) with ⟨h0, T, hT⟩ | ⟨h0, hT⟩
  · have HO := Lib.hid (And.intro h0 (And.intro hT (And.intro hst (show doM S ⟨1, a, b, c⟩ = T by unfold doM; rw [hst, hT]))))
    skip
    skip
    clear hst h0 hT
    go_enter Tryz.func7, Tryz.ntmps7
    go_upto_region 4 with (fail)
    have H1 := H0
    clear H0
    generalize (((w.alloc (.cells #[.slice va S.vols.length vc, .slice sa S.snaps.length sc] TRS)).alloc (.cells #[.int .i64 1, .int .i64 a, .int .i64 b, .int .i64 c] TVOp)).alloc (.cells #[.slice none 0 0, .slice none 0 0] TRS)).alloc (.cells #[.slice va S.vols.length vc, .slice sa S.snaps.length sc] TRS) = W1 at H1 ⊢
    generalize hBB : w.heap.size = B at H1 ⊢
    have c0 := cells_at H1.out.b0 0; have c1 := cells_at H1.out.b0 1; have x0 := cells_at H1.out.b1 0; have x1 := cells_at H1.out.b1 1; have x2 := cells_at H1.out.b1 2; have x3 := cells_at H1.out.b1 3; have r0 := cells_at H1.out.b2 0; have r1 := cells_at H1.out.b2 1; have n0 := cells_at H1.out.b3 0; have n1 := cells_at H1.out.b3 1; have g0 := thawed_at H1.out.b2 0; have g1 := thawed_at H1.out.b2 1; have m0 := thawed_at H1.out.b3 0; have m1 := thawed_at H1.out.b3 1
    go_upto_region 23 with (go_at_call 28; refine (HC.out _ H1.out.below).mono ?_; rintro e W3 ⟨xv, xs, rfl, h3⟩; rw [HO.out.1]; unfold RSp at h3; rw [HO.out.2.1] at h3; obtain ⟨xa, xc, rfl, _⟩ := (show RefAt _ _ _ _ _ from h3.out.2).v.slice; obtain ⟨ya, yc, rfl, _⟩ := (show RefAt _ _ _ _ _ from h3.out.2).s.slice; have H3 := Lib.hid (And.intro (Array.getElem?_eq_some_iff.1 H1.out.b3).1 (show RefAt _ _ _ _ _ from h3.out.2)); replace H1 := Lib.hid (H1.out.next h3.out.1); clear c0 c1 x0 x1 x2 x3 r0 r1 n0 n1 g0 g1 m0 m1; have c0 := cells_at H1.out.b0 0; have c1 := cells_at H1.out.b0 1; have x0 := cells_at H1.out.b1 0; have x1 := cells_at H1.out.b1 1; have x2 := cells_at H1.out.b1 2; have x3 := cells_at H1.out.b1 3; have r0 := cells_at H1.out.b2 0; have r1 := cells_at H1.out.b2 1; have n0 := cells_at H1.out.b3 0; have n1 := cells_at H1.out.b3 1; have g0 := thawed_at H1.out.b2 0; have g1 := thawed_at H1.out.b2 1; have m0 := thawed_at H1.out.b3 0; have m1 := thawed_at H1.out.b3 1; clear h3)
    have hq := H1.out.setN (.slice xa T.vols.length xc) (.slice ya T.snaps.length yc)
    have ho : ∀ k, k ≠ B + 2 → k ≠ B + 3 → ((W3.setCell ⟨B + 3, 0, none⟩ (.slice xa T.vols.length xc)).setCell ⟨B + 3, 1, none⟩ (.slice ya T.snaps.length yc)).heap[k]? = W3.heap[k]? := fun k _ h2 => (heap_setCell_other _ _ _ _ h2).trans (heap_setCell_other _ _ _ _ h2)
    have hz : W3.heap.size ≤ ((W3.setCell ⟨B + 3, 0, none⟩ (.slice xa T.vols.length xc)).setCell ⟨B + 3, 1, none⟩ (.slice ya T.snaps.length yc)).heap.size := by simp [World.setCell]
    have HPR := Lib.hid (show ∀ bb, newer (fun b => ok b ∧ b < w.heap.size) W1 bb → bb ≠ B + 2 ∧ bb ≠ B + 3 ∧ newer ok w bb from by
      intro bb hb
      have := H3.out.1
      rcases hb with hb | hb
      · exact ⟨by omega, by omega, .inl hb.1⟩
      · exact ⟨by omega, by omega, .inr (by omega)⟩)
    have H4 := Lib.hid (H3.out.2.keep hz fun bb hb _ => ho bb (HPR.out bb hb).1 (HPR.out bb hb).2.1)
    generalize (W3.setCell ⟨B + 3, 0, none⟩ (.slice xa T.vols.length xc)).setCell ⟨B + 3, 1, none⟩ (.slice ya T.snaps.length yc) = W4 at hq H4 ⊢
    replace H1 := Lib.hid hq
    clear c0 c1 x0 x1 x2 x3 r0 r1 n0 n1 g0 g1 m0 m1
    have c0 := cells_at H1.out.b0 0; have c1 := cells_at H1.out.b0 1; have x0 := cells_at H1.out.b1 0; have x1 := cells_at H1.out.b1 1; have x2 := cells_at H1.out.b1 2; have x3 := cells_at H1.out.b1 3; have r0 := cells_at H1.out.b2 0; have r1 := cells_at H1.out.b2 1; have n0 := cells_at H1.out.b3 0; have n1 := cells_at H1.out.b3 1; have g0 := thawed_at H1.out.b2 0; have g1 := thawed_at H1.out.b2 1; have m0 := thawed_at H1.out.b3 0; have m1 := thawed_at H1.out.b3 1
    clear hq ho hz
    go_wp2
    have HF := Lib.hid (H1.out.setR (.slice xa T.vols.length xc) (.slice ya T.snaps.length yc))
    refine bodyPost_ret (results_c3 rfl rfl rfl rfl HF.out.b2) rfl ?_
    refine ⟨_, _, by rw [HO.out.2.2.1, HO.out.1]; rfl, HF.out.below, ?_⟩
    rw [HO.out.2.2.2]
    exact finS HPR.out H4.out (by simp [World.setCell]) fun k h1 _ => (heap_setCell_other _ _ _ _ h1).trans (heap_setCell_other _ _ _ _ h1)
  · have HO := Lib.hid (And.intro h0 (And.intro hT (And.intro hst (show doM S ⟨1, a, b, c⟩ = S by unfold doM; rw [hst, hT]))))
    skip
    skip
    have hed : ((S.create a Vol.empty).e != 0) = true := by simpa using h0
    generalize hE : (S.create a Vol.empty).e = E at hed
    have HE := Lib.hid hE
    clear hst h0 hT hE
    go_enter Tryz.func7, Tryz.ntmps7
    go_upto_region 4 with (fail)
    have H1 := H0
    clear H0
    generalize (((w.alloc (.cells #[.slice va S.vols.length vc, .slice sa S.snaps.length sc] TRS)).alloc (.cells #[.int .i64 1, .int .i64 a, .int .i64 b, .int .i64 c] TVOp)).alloc (.cells #[.slice none 0 0, .slice none 0 0] TRS)).alloc (.cells #[.slice va S.vols.length vc, .slice sa S.snaps.length sc] TRS) = W1 at H1 ⊢
    generalize hBB : w.heap.size = B at H1 ⊢
    have c0 := cells_at H1.out.b0 0; have c1 := cells_at H1.out.b0 1; have x0 := cells_at H1.out.b1 0; have x1 := cells_at H1.out.b1 1; have x2 := cells_at H1.out.b1 2; have x3 := cells_at H1.out.b1 3; have r0 := cells_at H1.out.b2 0; have r1 := cells_at H1.out.b2 1; have n0 := cells_at H1.out.b3 0; have n1 := cells_at H1.out.b3 1; have g0 := thawed_at H1.out.b2 0; have g1 := thawed_at H1.out.b2 1; have m0 := thawed_at H1.out.b3 0; have m1 := thawed_at H1.out.b3 1
    go_upto_region 23 with (go_at_call 28; refine (HC.out _ H1.out.below).mono ?_; rintro e W3 ⟨xv, xs, rfl, h3⟩; rw [HE.out]; unfold RSp at h3; rw [HO.out.2.1] at h3; obtain ⟨rfl, rfl⟩ := h3.out.2; replace H1 := Lib.hid (H1.out.next h3.out.1); clear c0 c1 x0 x1 x2 x3 r0 r1 n0 n1 g0 g1 m0 m1; have c0 := cells_at H1.out.b0 0; have c1 := cells_at H1.out.b0 1; have x0 := cells_at H1.out.b1 0; have x1 := cells_at H1.out.b1 1; have x2 := cells_at H1.out.b1 2; have x3 := cells_at H1.out.b1 3; have r0 := cells_at H1.out.b2 0; have r1 := cells_at H1.out.b2 1; have n0 := cells_at H1.out.b3 0; have n1 := cells_at H1.out.b3 1; have g0 := thawed_at H1.out.b2 0; have g1 := thawed_at H1.out.b2 1; have m0 := thawed_at H1.out.b3 0; have m1 := thawed_at H1.out.b3 1; clear h3)
    have hq := H1.out.setN (.slice none 0 0) (.slice none 0 0)
    generalize (W3.setCell ⟨B + 3, 0, none⟩ (.slice none 0 0)).setCell ⟨B + 3, 1, none⟩ (.slice none 0 0) = W4 at hq ⊢
    replace H1 := Lib.hid hq
    clear c0 c1 x0 x1 x2 x3 r0 r1 n0 n1 g0 g1 m0 m1
    have c0 := cells_at H1.out.b0 0; have c1 := cells_at H1.out.b0 1; have x0 := cells_at H1.out.b1 0; have x1 := cells_at H1.out.b1 1; have x2 := cells_at H1.out.b1 2; have x3 := cells_at H1.out.b1 3; have r0 := cells_at H1.out.b2 0; have r1 := cells_at H1.out.b2 1; have n0 := cells_at H1.out.b3 0; have n1 := cells_at H1.out.b3 1; have g0 := thawed_at H1.out.b2 0; have g1 := thawed_at H1.out.b2 1; have m0 := thawed_at H1.out.b3 0; have m1 := thawed_at H1.out.b3 1
    clear hq
    go_wp2
    have HF := Lib.hid (H1.out.setR (.slice va S.vols.length vc) (.slice sa S.snaps.length sc))
    refine bodyPost_ret (results_c3 rfl rfl rfl rfl HF.out.b2) rfl ?_
    refine ⟨_, _, by rw [HO.out.2.2.1, HE.out]; rfl, HF.out.below, ?_⟩
    rw [HO.out.2.2.2]
    exact (HS.out.1.below HF.out.below).weaken fun _ h _ => .inl h

set_option maxRecDepth 20000 in
set_option maxHeartbeats 4000000 in
theorem spec2_any {ok : Nat → Prop} (vv vs : Value) (S : SpaceM) (a b c : Int) (w : World) (hS : RefAt ok w vv vs S) (hwf : S.WF) :
    Calls Tryz.prog 7 #[.agg #[vv, vs], .agg #[.int .i64 2, .int .i64 a, .int .i64 b, .int .i64 c]] w (SpecOut ok w S ⟨2, a, b, c⟩) := by
  obtain ⟨va, vc, rfl, _⟩ := hS.v.slice
  obtain ⟨sa, sc, rfl, _⟩ := hS.s.slice
  have HS := Lib.hid (And.intro hS hwf)
  have H0 := Lib.hid (spc_new w (.slice va S.vols.length vc) (.slice sa S.snaps.length sc) (.int .i64 2) (.int .i64 a) (.int .i64 b) (.int .i64 c))
  clear hS hwf
  have hst : stepM S ⟨2, a, b, c⟩ = S.delete a := by simp [stepM]
  have HC := Lib.hid (fun (W : World) (hb : Below w.heap.size w W) => rdelete_any (ok := fun b => ok b ∧ b < w.heap.size) (.slice va S.vols.length vc) (.slice sa S.snaps.length sc) S a W ⟨in_ref HS.out.1.v hb, in_ref HS.out.1.s hb⟩ HS.out.2)
  rcases (show (S.delete a).Link from delete_link S a) with ⟨h0, T, hT⟩ | ⟨h0, hT⟩
  · have HO := Lib.hid (And.intro h0 (And.intro hT (And.intro hst (show doM S ⟨2, a, b, c⟩ = T by unfold doM; rw [hst, hT]))))
    have hid : (S.delete a).id = 0 := delete_id S a
    have HID := Lib.hid hid; clear hid
    clear hst h0 hT
    go_enter Tryz.func7, Tryz.ntmps7
    go_upto_region 4 with (fail)
    have H1 := H0
    clear H0
    generalize (((w.alloc (.cells #[.slice va S.vols.length vc, .slice sa S.snaps.length sc] TRS)).alloc (.cells #[.int .i64 2, .int .i64 a, .int .i64 b, .int .i64 c] TVOp)).alloc (.cells #[.slice none 0 0, .slice none 0 0] TRS)).alloc (.cells #[.slice va S.vols.length vc, .slice sa S.snaps.length sc] TRS) = W1 at H1 ⊢
    generalize hBB : w.heap.size = B at H1 ⊢
    have c0 := cells_at H1.out.b0 0; have c1 := cells_at H1.out.b0 1; have x0 := cells_at H1.out.b1 0; have x1 := cells_at H1.out.b1 1; have x2 := cells_at H1.out.b1 2; have x3 := cells_at H1.out.b1 3; have r0 := cells_at H1.out.b2 0; have r1 := cells_at H1.out.b2 1; have n0 := cells_at H1.out.b3 0; have n1 := cells_at H1.out.b3 1; have g0 := thawed_at H1.out.b2 0; have g1 := thawed_at H1.out.b2 1; have m0 := thawed_at H1.out.b3 0; have m1 := thawed_at H1.out.b3 1
    go_upto_region 23 with (go_at_call 29; refine (HC.out _ H1.out.below).mono ?_; rintro e W3 ⟨xv, xs, rfl, h3⟩; rw [HO.out.1]; unfold RSp at h3; rw [HO.out.2.1] at h3; obtain ⟨xa, xc, rfl, _⟩ := (show RefAt _ _ _ _ _ from h3.out.2).v.slice; obtain ⟨ya, yc, rfl, _⟩ := (show RefAt _ _ _ _ _ from h3.out.2).s.slice; have H3 := Lib.hid (And.intro (Array.getElem?_eq_some_iff.1 H1.out.b3).1 (show RefAt _ _ _ _ _ from h3.out.2)); replace H1 := Lib.hid (H1.out.next h3.out.1); clear c0 c1 x0 x1 x2 x3 r0 r1 n0 n1 g0 g1 m0 m1; have c0 := cells_at H1.out.b0 0; have c1 := cells_at H1.out.b0 1; have x0 := cells_at H1.out.b1 0; have x1 := cells_at H1.out.b1 1; have x2 := cells_at H1.out.b1 2; have x3 := cells_at H1.out.b1 3; have r0 := cells_at H1.out.b2 0; have r1 := cells_at H1.out.b2 1; have n0 := cells_at H1.out.b3 0; have n1 := cells_at H1.out.b3 1; have g0 := thawed_at H1.out.b2 0; have g1 := thawed_at H1.out.b2 1; have m0 := thawed_at H1.out.b3 0; have m1 := thawed_at H1.out.b3 1; clear h3)
    have hq := H1.out.setN (.slice xa T.vols.length xc) (.slice ya T.snaps.length yc)
    have ho : ∀ k, k ≠ B + 2 → k ≠ B + 3 → ((W3.setCell ⟨B + 3, 0, none⟩ (.slice xa T.vols.length xc)).setCell ⟨B + 3, 1, none⟩ (.slice ya T.snaps.length yc)).heap[k]? = W3.heap[k]? := fun k _ h2 => (heap_setCell_other _ _ _ _ h2).trans (heap_setCell_other _ _ _ _ h2)
    have hz : W3.heap.size ≤ ((W3.setCell ⟨B + 3, 0, none⟩ (.slice xa T.vols.length xc)).setCell ⟨B + 3, 1, none⟩ (.slice ya T.snaps.length yc)).heap.size := by simp [World.setCell]
    have HPR := Lib.hid (show ∀ bb, newer (fun b => ok b ∧ b < w.heap.size) W1 bb → bb ≠ B + 2 ∧ bb ≠ B + 3 ∧ newer ok w bb from by
      intro bb hb
      have := H3.out.1
      rcases hb with hb | hb
      · exact ⟨by omega, by omega, .inl hb.1⟩
      · exact ⟨by omega, by omega, .inr (by omega)⟩)
    have H4 := Lib.hid (H3.out.2.keep hz fun bb hb _ => ho bb (HPR.out bb hb).1 (HPR.out bb hb).2.1)
    generalize (W3.setCell ⟨B + 3, 0, none⟩ (.slice xa T.vols.length xc)).setCell ⟨B + 3, 1, none⟩ (.slice ya T.snaps.length yc) = W4 at hq H4 ⊢
    replace H1 := Lib.hid hq
    clear c0 c1 x0 x1 x2 x3 r0 r1 n0 n1 g0 g1 m0 m1
    have c0 := cells_at H1.out.b0 0; have c1 := cells_at H1.out.b0 1; have x0 := cells_at H1.out.b1 0; have x1 := cells_at H1.out.b1 1; have x2 := cells_at H1.out.b1 2; have x3 := cells_at H1.out.b1 3; have r0 := cells_at H1.out.b2 0; have r1 := cells_at H1.out.b2 1; have n0 := cells_at H1.out.b3 0; have n1 := cells_at H1.out.b3 1; have g0 := thawed_at H1.out.b2 0; have g1 := thawed_at H1.out.b2 1; have m0 := thawed_at H1.out.b3 0; have m1 := thawed_at H1.out.b3 1
    clear hq ho hz
    go_wp2
    have HF := Lib.hid (H1.out.setR (.slice xa T.vols.length xc) (.slice ya T.snaps.length yc))
    refine bodyPost_ret (results_c3 rfl rfl rfl rfl HF.out.b2) rfl ?_
    refine ⟨_, _, by rw [HO.out.2.2.1, HO.out.1, HID.out]; rfl, HF.out.below, ?_⟩
    rw [HO.out.2.2.2]
    exact finS HPR.out H4.out (by simp [World.setCell]) fun k h1 _ => (heap_setCell_other _ _ _ _ h1).trans (heap_setCell_other _ _ _ _ h1)
  · have HO := Lib.hid (And.intro h0 (And.intro hT (And.intro hst (show doM S ⟨2, a, b, c⟩ = S by unfold doM; rw [hst, hT]))))
    have hid : (S.delete a).id = 0 := delete_id S a
    have HID := Lib.hid hid; clear hid
    have hed : ((S.delete a).e != 0) = true := by simpa using h0
    generalize hE : (S.delete a).e = E at hed
    have HE := Lib.hid hE
    clear hst h0 hT hE
    go_enter Tryz.func7, Tryz.ntmps7
    go_upto_region 4 with (fail)
    have H1 := H0
    clear H0
    generalize (((w.alloc (.cells #[.slice va S.vols.length vc, .slice sa S.snaps.length sc] TRS)).alloc (.cells #[.int .i64 2, .int .i64 a, .int .i64 b, .int .i64 c] TVOp)).alloc (.cells #[.slice none 0 0, .slice none 0 0] TRS)).alloc (.cells #[.slice va S.vols.length vc, .slice sa S.snaps.length sc] TRS) = W1 at H1 ⊢
    generalize hBB : w.heap.size = B at H1 ⊢
    have c0 := cells_at H1.out.b0 0; have c1 := cells_at H1.out.b0 1; have x0 := cells_at H1.out.b1 0; have x1 := cells_at H1.out.b1 1; have x2 := cells_at H1.out.b1 2; have x3 := cells_at H1.out.b1 3; have r0 := cells_at H1.out.b2 0; have r1 := cells_at H1.out.b2 1; have n0 := cells_at H1.out.b3 0; have n1 := cells_at H1.out.b3 1; have g0 := thawed_at H1.out.b2 0; have g1 := thawed_at H1.out.b2 1; have m0 := thawed_at H1.out.b3 0; have m1 := thawed_at H1.out.b3 1
    go_upto_region 23 with (go_at_call 29; refine (HC.out _ H1.out.below).mono ?_; rintro e W3 ⟨xv, xs, rfl, h3⟩; rw [HE.out]; unfold RSp at h3; rw [HO.out.2.1] at h3; obtain ⟨rfl, rfl⟩ := h3.out.2; replace H1 := Lib.hid (H1.out.next h3.out.1); clear c0 c1 x0 x1 x2 x3 r0 r1 n0 n1 g0 g1 m0 m1; have c0 := cells_at H1.out.b0 0; have c1 := cells_at H1.out.b0 1; have x0 := cells_at H1.out.b1 0; have x1 := cells_at H1.out.b1 1; have x2 := cells_at H1.out.b1 2; have x3 := cells_at H1.out.b1 3; have r0 := cells_at H1.out.b2 0; have r1 := cells_at H1.out.b2 1; have n0 := cells_at H1.out.b3 0; have n1 := cells_at H1.out.b3 1; have g0 := thawed_at H1.out.b2 0; have g1 := thawed_at H1.out.b2 1; have m0 := thawed_at H1.out.b3 0; have m1 := thawed_at H1.out.b3 1; clear h3)
    have hq := H1.out.setN (.slice none 0 0) (.slice none 0 0)
    generalize (W3.setCell ⟨B + 3, 0, none⟩ (.slice none 0 0)).setCell ⟨B + 3, 1, none⟩ (.slice none 0 0) = W4 at hq ⊢
    replace H1 := Lib.hid hq
    clear c0 c1 x0 x1 x2 x3 r0 r1 n0 n1 g0 g1 m0 m1
    have c0 := cells_at H1.out.b0 0; have c1 := cells_at H1.out.b0 1; have x0 := cells_at H1.out.b1 0; have x1 := cells_at H1.out.b1 1; have x2 := cells_at H1.out.b1 2; have x3 := cells_at H1.out.b1 3; have r0 := cells_at H1.out.b2 0; have r1 := cells_at H1.out.b2 1; have n0 := cells_at H1.out.b3 0; have n1 := cells_at H1.out.b3 1; have g0 := thawed_at H1.out.b2 0; have g1 := thawed_at H1.out.b2 1; have m0 := thawed_at H1.out.b3 0; have m1 := thawed_at H1.out.b3 1
    clear hq
    go_wp2
    have HF := Lib.hid (H1.out.setR (.slice va S.vols.length vc) (.slice sa S.snaps.length sc))
    refine bodyPost_ret (results_c3 rfl rfl rfl rfl HF.out.b2) rfl ?_
    refine ⟨_, _, by rw [HO.out.2.2.1, HE.out, HID.out]; rfl, HF.out.below, ?_⟩
    rw [HO.out.2.2.2]
    exact (HS.out.1.below HF.out.below).weaken fun _ h _ => .inl h

set_option maxRecDepth 20000 in
set_option maxHeartbeats 4000000 in
theorem spec3_any {ok : Nat → Prop} (vv vs : Value) (S : SpaceM) (a b c : Int) (w : World) (hS : RefAt ok w vv vs S) (hwf : S.WF) :
    Calls Tryz.prog 7 #[.agg #[vv, vs], .agg #[.int .i64 3, .int .i64 a, .int .i64 b, .int .i64 c]] w (SpecOut ok w S ⟨3, a, b, c⟩) := by
  obtain ⟨va, vc, rfl, _⟩ := hS.v.slice
  obtain ⟨sa, sc, rfl, _⟩ := hS.s.slice
  have HS := Lib.hid (And.intro hS hwf)
  have H0 := Lib.hid (spc_new w (.slice va S.vols.length vc) (.slice sa S.snaps.length sc) (.int .i64 3) (.int .i64 a) (.int .i64 b) (.int .i64 c))
  clear hS hwf
  have hst : stepM S ⟨3, a, b, c⟩ = S.give a b := by simp [stepM]
  have HC := Lib.hid (fun (W : World) (hb : Below w.heap.size w W) => rgive_any (ok := fun b => ok b ∧ b < w.heap.size) (.slice va S.vols.length vc) (.slice sa S.snaps.length sc) S a b W ⟨in_ref HS.out.1.v hb, in_ref HS.out.1.s hb⟩ HS.out.2)
  rcases (show (S.give a b).Link from change_link _ _ _ _) with ⟨h0, T, hT⟩ | ⟨h0, hT⟩
  · have HO := Lib.hid (And.intro h0 (And.intro hT (And.intro hst (show doM S ⟨3, a, b, c⟩ = T by unfold doM; rw [hst, hT]))))
    have hid : (S.give a b).id = 0 := change_id _ _ _ _
    have HID := Lib.hid hid; clear hid
    clear hst h0 hT
    go_enter Tryz.func7, Tryz.ntmps7
    go_upto_region 4 with (fail)
    have H1 := H0
    clear H0
    generalize (((w.alloc (.cells #[.slice va S.vols.length vc, .slice sa S.snaps.length sc] TRS)).alloc (.cells #[.int .i64 3, .int .i64 a, .int .i64 b, .int .i64 c] TVOp)).alloc (.cells #[.slice none 0 0, .slice none 0 0] TRS)).alloc (.cells #[.slice va S.vols.length vc, .slice sa S.snaps.length sc] TRS) = W1 at H1 ⊢
    generalize hBB : w.heap.size = B at H1 ⊢
    have c0 := cells_at H1.out.b0 0; have c1 := cells_at H1.out.b0 1; have x0 := cells_at H1.out.b1 0; have x1 := cells_at H1.out.b1 1; have x2 := cells_at H1.out.b1 2; have x3 := cells_at H1.out.b1 3; have r0 := cells_at H1.out.b2 0; have r1 := cells_at H1.out.b2 1; have n0 := cells_at H1.out.b3 0; have n1 := cells_at H1.out.b3 1; have g0 := thawed_at H1.out.b2 0; have g1 := thawed_at H1.out.b2 1; have m0 := thawed_at H1.out.b3 0; have m1 := thawed_at H1.out.b3 1
    go_upto_region 23 with (go_at_call 30; refine (HC.out _ H1.out.below).mono ?_; rintro e W3 ⟨xv, xs, rfl, h3⟩; rw [HO.out.1]; unfold RSp at h3; rw [HO.out.2.1] at h3; obtain ⟨xa, xc, rfl, _⟩ := (show RefAt _ _ _ _ _ from h3.out.2).v.slice; obtain ⟨ya, yc, rfl, _⟩ := (show RefAt _ _ _ _ _ from h3.out.2).s.slice; have H3 := Lib.hid (And.intro (Array.getElem?_eq_some_iff.1 H1.out.b3).1 (show RefAt _ _ _ _ _ from h3.out.2)); replace H1 := Lib.hid (H1.out.next h3.out.1); clear c0 c1 x0 x1 x2 x3 r0 r1 n0 n1 g0 g1 m0 m1; have c0 := cells_at H1.out.b0 0; have c1 := cells_at H1.out.b0 1; have x0 := cells_at H1.out.b1 0; have x1 := cells_at H1.out.b1 1; have x2 := cells_at H1.out.b1 2; have x3 := cells_at H1.out.b1 3; have r0 := cells_at H1.out.b2 0; have r1 := cells_at H1.out.b2 1; have n0 := cells_at H1.out.b3 0; have n1 := cells_at H1.out.b3 1; have g0 := thawed_at H1.out.b2 0; have g1 := thawed_at H1.out.b2 1; have m0 := thawed_at H1.out.b3 0; have m1 := thawed_at H1.out.b3 1; clear h3)
    have hq := H1.out.setN (.slice xa T.vols.length xc) (.slice ya T.snaps.length yc)
    have ho : ∀ k, k ≠ B + 2 → k ≠ B + 3 → ((W3.setCell ⟨B + 3, 0, none⟩ (.slice xa T.vols.length xc)).setCell ⟨B + 3, 1, none⟩ (.slice ya T.snaps.length yc)).heap[k]? = W3.heap[k]? := fun k _ h2 => (heap_setCell_other _ _ _ _ h2).trans (heap_setCell_other _ _ _ _ h2)
    have hz : W3.heap.size ≤ ((W3.setCell ⟨B + 3, 0, none⟩ (.slice xa T.vols.length xc)).setCell ⟨B + 3, 1, none⟩ (.slice ya T.snaps.length yc)).heap.size := by simp [World.setCell]
    have HPR := Lib.hid (show ∀ bb, newer (fun b => ok b ∧ b < w.heap.size) W1 bb → bb ≠ B + 2 ∧ bb ≠ B + 3 ∧ newer ok w bb from by
      intro bb hb
      have := H3.out.1
      rcases hb with hb | hb
      · exact ⟨by omega, by omega, .inl hb.1⟩
      · exact ⟨by omega, by omega, .inr (by omega)⟩)
    have H4 := Lib.hid (H3.out.2.keep hz fun bb hb _ => ho bb (HPR.out bb hb).1 (HPR.out bb hb).2.1)
    generalize (W3.setCell ⟨B + 3, 0, none⟩ (.slice xa T.vols.length xc)).setCell ⟨B + 3, 1, none⟩ (.slice ya T.snaps.length yc) = W4 at hq H4 ⊢
    replace H1 := Lib.hid hq
    clear c0 c1 x0 x1 x2 x3 r0 r1 n0 n1 g0 g1 m0 m1
    have c0 := cells_at H1.out.b0 0; have c1 := cells_at H1.out.b0 1; have x0 := cells_at H1.out.b1 0; have x1 := cells_at H1.out.b1 1; have x2 := cells_at H1.out.b1 2; have x3 := cells_at H1.out.b1 3; have r0 := cells_at H1.out.b2 0; have r1 := cells_at H1.out.b2 1; have n0 := cells_at H1.out.b3 0; have n1 := cells_at H1.out.b3 1; have g0 := thawed_at H1.out.b2 0; have g1 := thawed_at H1.out.b2 1; have m0 := thawed_at H1.out.b3 0; have m1 := thawed_at H1.out.b3 1
    clear hq ho hz
    go_wp2
    have HF := Lib.hid (H1.out.setR (.slice xa T.vols.length xc) (.slice ya T.snaps.length yc))
    refine bodyPost_ret (results_c3 rfl rfl rfl rfl HF.out.b2) rfl ?_
    refine ⟨_, _, by rw [HO.out.2.2.1, HO.out.1, HID.out]; rfl, HF.out.below, ?_⟩
    rw [HO.out.2.2.2]
    exact finS HPR.out H4.out (by simp [World.setCell]) fun k h1 _ => (heap_setCell_other _ _ _ _ h1).trans (heap_setCell_other _ _ _ _ h1)
  · have HO := Lib.hid (And.intro h0 (And.intro hT (And.intro hst (show doM S ⟨3, a, b, c⟩ = S by unfold doM; rw [hst, hT]))))
    have hid : (S.give a b).id = 0 := change_id _ _ _ _
    have HID := Lib.hid hid; clear hid
    have hed : ((S.give a b).e != 0) = true := by simpa using h0
    generalize hE : (S.give a b).e = E at hed
    have HE := Lib.hid hE
    clear hst h0 hT hE
    go_enter Tryz.func7, Tryz.ntmps7
    go_upto_region 4 with (fail)
    have H1 := H0
    clear H0
    generalize (((w.alloc (.cells #[.slice va S.vols.length vc, .slice sa S.snaps.length sc] TRS)).alloc (.cells #[.int .i64 3, .int .i64 a, .int .i64 b, .int .i64 c] TVOp)).alloc (.cells #[.slice none 0 0, .slice none 0 0] TRS)).alloc (.cells #[.slice va S.vols.length vc, .slice sa S.snaps.length sc] TRS) = W1 at H1 ⊢
    generalize hBB : w.heap.size = B at H1 ⊢
    have c0 := cells_at H1.out.b0 0; have c1 := cells_at H1.out.b0 1; have x0 := cells_at H1.out.b1 0; have x1 := cells_at H1.out.b1 1; have x2 := cells_at H1.out.b1 2; have x3 := cells_at H1.out.b1 3; have r0 := cells_at H1.out.b2 0; have r1 := cells_at H1.out.b2 1; have n0 := cells_at H1.out.b3 0; have n1 := cells_at H1.out.b3 1; have g0 := thawed_at H1.out.b2 0; have g1 := thawed_at H1.out.b2 1; have m0 := thawed_at H1.out.b3 0; have m1 := thawed_at H1.out.b3 1
    go_upto_region 23 with (go_at_call 30; refine (HC.out _ H1.out.below).mono ?_; rintro e W3 ⟨xv, xs, rfl, h3⟩; rw [HE.out]; unfold RSp at h3; rw [HO.out.2.1] at h3; obtain ⟨rfl, rfl⟩ := h3.out.2; replace H1 := Lib.hid (H1.out.next h3.out.1); clear c0 c1 x0 x1 x2 x3 r0 r1 n0 n1 g0 g1 m0 m1; have c0 := cells_at H1.out.b0 0; have c1 := cells_at H1.out.b0 1; have x0 := cells_at H1.out.b1 0; have x1 := cells_at H1.out.b1 1; have x2 := cells_at H1.out.b1 2; have x3 := cells_at H1.out.b1 3; have r0 := cells_at H1.out.b2 0; have r1 := cells_at H1.out.b2 1; have n0 := cells_at H1.out.b3 0; have n1 := cells_at H1.out.b3 1; have g0 := thawed_at H1.out.b2 0; have g1 := thawed_at H1.out.b2 1; have m0 := thawed_at H1.out.b3 0; have m1 := thawed_at H1.out.b3 1; clear h3)
    have hq := H1.out.setN (.slice none 0 0) (.slice none 0 0)
    generalize (W3.setCell ⟨B + 3, 0, none⟩ (.slice none 0 0)).setCell ⟨B + 3, 1, none⟩ (.slice none 0 0) = W4 at hq ⊢
    replace H1 := Lib.hid hq
    clear c0 c1 x0 x1 x2 x3 r0 r1 n0 n1 g0 g1 m0 m1
    have c0 := cells_at H1.out.b0 0; have c1 := cells_at H1.out.b0 1; have x0 := cells_at H1.out.b1 0; have x1 := cells_at H1.out.b1 1; have x2 := cells_at H1.out.b1 2; have x3 := cells_at H1.out.b1 3; have r0 := cells_at H1.out.b2 0; have r1 := cells_at H1.out.b2 1; have n0 := cells_at H1.out.b3 0; have n1 := cells_at H1.out.b3 1; have g0 := thawed_at H1.out.b2 0; have g1 := thawed_at H1.out.b2 1; have m0 := thawed_at H1.out.b3 0; have m1 := thawed_at H1.out.b3 1
    clear hq
    go_wp2
    have HF := Lib.hid (H1.out.setR (.slice va S.vols.length vc) (.slice sa S.snaps.length sc))
    refine bodyPost_ret (results_c3 rfl rfl rfl rfl HF.out.b2) rfl ?_
    refine ⟨_, _, by rw [HO.out.2.2.1, HE.out, HID.out]; rfl, HF.out.below, ?_⟩
    rw [HO.out.2.2.2]
    exact (HS.out.1.below HF.out.below).weaken fun _ h _ => .inl h

set_option maxRecDepth 20000 in
set_option maxHeartbeats 4000000 in
theorem spec4_any {ok : Nat → Prop} (vv vs : Value) (S : SpaceM) (a b c : Int) (w : World) (hS : RefAt ok w vv vs S) (hwf : S.WF) :
    Calls Tryz.prog 7 #[.agg #[vv, vs], .agg #[.int .i64 4, .int .i64 a, .int .i64 b, .int .i64 c]] w (SpecOut ok w S ⟨4, a, b, c⟩) := by
  obtain ⟨va, vc, rfl, _⟩ := hS.v.slice
  obtain ⟨sa, sc, rfl, _⟩ := hS.s.slice
  have HS := Lib.hid (And.intro hS hwf)
  have H0 := Lib.hid (spc_new w (.slice va S.vols.length vc) (.slice sa S.snaps.length sc) (.int .i64 4) (.int .i64 a) (.int .i64 b) (.int .i64 c))
  clear hS hwf
  have hst : stepM S ⟨4, a, b, c⟩ = S.map a b c := by simp [stepM]
  have HC := Lib.hid (fun (W : World) (hb : Below w.heap.size w W) => rmap_any (ok := fun b => ok b ∧ b < w.heap.size) (.slice va S.vols.length vc) (.slice sa S.snaps.length sc) S a b c W ⟨in_ref HS.out.1.v hb, in_ref HS.out.1.s hb⟩ HS.out.2)
  rcases (show (S.map a b c).Link from change_link _ _ _ _) with ⟨h0, T, hT⟩ | ⟨h0, hT⟩
  · have HO := Lib.hid (And.intro h0 (And.intro hT (And.intro hst (show doM S ⟨4, a, b, c⟩ = T by unfold doM; rw [hst, hT]))))
    have hid : (S.map a b c).id = 0 := change_id _ _ _ _
    have HID := Lib.hid hid; clear hid
    clear hst h0 hT
    go_enter Tryz.func7, Tryz.ntmps7
    go_upto_region 4 with (fail)
    have H1 := H0
    clear H0
    generalize (((w.alloc (.cells #[.slice va S.vols.length vc, .slice sa S.snaps.length sc] TRS)).alloc (.cells #[.int .i64 4, .int .i64 a, .int .i64 b, .int .i64 c] TVOp)).alloc (.cells #[.slice none 0 0, .slice none 0 0] TRS)).alloc (.cells #[.slice va S.vols.length vc, .slice sa S.snaps.length sc] TRS) = W1 at H1 ⊢
    generalize hBB : w.heap.size = B at H1 ⊢
    have c0 := cells_at H1.out.b0 0; have c1 := cells_at H1.out.b0 1; have x0 := cells_at H1.out.b1 0; have x1 := cells_at H1.out.b1 1; have x2 := cells_at H1.out.b1 2; have x3 := cells_at H1.out.b1 3; have r0 := cells_at H1.out.b2 0; have r1 := cells_at H1.out.b2 1; have n0 := cells_at H1.out.b3 0; have n1 := cells_at H1.out.b3 1; have g0 := thawed_at H1.out.b2 0; have g1 := thawed_at H1.out.b2 1; have m0 := thawed_at H1.out.b3 0; have m1 := thawed_at H1.out.b3 1
    go_upto_region 23 with (go_at_call 31; refine (HC.out _ H1.out.below).mono ?_; rintro e W3 ⟨xv, xs, rfl, h3⟩; rw [HO.out.1]; unfold RSp at h3; rw [HO.out.2.1] at h3; obtain ⟨xa, xc, rfl, _⟩ := (show RefAt _ _ _ _ _ from h3.out.2).v.slice; obtain ⟨ya, yc, rfl, _⟩ := (show RefAt _ _ _ _ _ from h3.out.2).s.slice; have H3 := Lib.hid (And.intro (Array.getElem?_eq_some_iff.1 H1.out.b3).1 (show RefAt _ _ _ _ _ from h3.out.2)); replace H1 := Lib.hid (H1.out.next h3.out.1); clear c0 c1 x0 x1 x2 x3 r0 r1 n0 n1 g0 g1 m0 m1; have c0 := cells_at H1.out.b0 0; have c1 := cells_at H1.out.b0 1; have x0 := cells_at H1.out.b1 0; have x1 := cells_at H1.out.b1 1; have x2 := cells_at H1.out.b1 2; have x3 := cells_at H1.out.b1 3; have r0 := cells_at H1.out.b2 0; have r1 := cells_at H1.out.b2 1; have n0 := cells_at H1.out.b3 0; have n1 := cells_at H1.out.b3 1; have g0 := thawed_at H1.out.b2 0; have g1 := thawed_at H1.out.b2 1; have m0 := thawed_at H1.out.b3 0; have m1 := thawed_at H1.out.b3 1; clear h3)
    have hq := H1.out.setN (.slice xa T.vols.length xc) (.slice ya T.snaps.length yc)
    have ho : ∀ k, k ≠ B + 2 → k ≠ B + 3 → ((W3.setCell ⟨B + 3, 0, none⟩ (.slice xa T.vols.length xc)).setCell ⟨B + 3, 1, none⟩ (.slice ya T.snaps.length yc)).heap[k]? = W3.heap[k]? := fun k _ h2 => (heap_setCell_other _ _ _ _ h2).trans (heap_setCell_other _ _ _ _ h2)
    have hz : W3.heap.size ≤ ((W3.setCell ⟨B + 3, 0, none⟩ (.slice xa T.vols.length xc)).setCell ⟨B + 3, 1, none⟩ (.slice ya T.snaps.length yc)).heap.size := by simp [World.setCell]
    have HPR := Lib.hid (show ∀ bb, newer (fun b => ok b ∧ b < w.heap.size) W1 bb → bb ≠ B + 2 ∧ bb ≠ B + 3 ∧ newer ok w bb from by
      intro bb hb
      have := H3.out.1
      rcases hb with hb | hb
      · exact ⟨by omega, by omega, .inl hb.1⟩
      · exact ⟨by omega, by omega, .inr (by omega)⟩)
    have H4 := Lib.hid (H3.out.2.keep hz fun bb hb _ => ho bb (HPR.out bb hb).1 (HPR.out bb hb).2.1)
    generalize (W3.setCell ⟨B + 3, 0, none⟩ (.slice xa T.vols.length xc)).setCell ⟨B + 3, 1, none⟩ (.slice ya T.snaps.length yc) = W4 at hq H4 ⊢
    replace H1 := Lib.hid hq
    clear c0 c1 x0 x1 x2 x3 r0 r1 n0 n1 g0 g1 m0 m1
    have c0 := cells_at H1.out.b0 0; have c1 := cells_at H1.out.b0 1; have x0 := cells_at H1.out.b1 0; have x1 := cells_at H1.out.b1 1; have x2 := cells_at H1.out.b1 2; have x3 := cells_at H1.out.b1 3; have r0 := cells_at H1.out.b2 0; have r1 := cells_at H1.out.b2 1; have n0 := cells_at H1.out.b3 0; have n1 := cells_at H1.out.b3 1; have g0 := thawed_at H1.out.b2 0; have g1 := thawed_at H1.out.b2 1; have m0 := thawed_at H1.out.b3 0; have m1 := thawed_at H1.out.b3 1
    clear hq ho hz
    go_wp2
    have HF := Lib.hid (H1.out.setR (.slice xa T.vols.length xc) (.slice ya T.snaps.length yc))
    refine bodyPost_ret (results_c3 rfl rfl rfl rfl HF.out.b2) rfl ?_
    refine ⟨_, _, by rw [HO.out.2.2.1, HO.out.1, HID.out]; rfl, HF.out.below, ?_⟩
    rw [HO.out.2.2.2]
    exact finS HPR.out H4.out (by simp [World.setCell]) fun k h1 _ => (heap_setCell_other _ _ _ _ h1).trans (heap_setCell_other _ _ _ _ h1)
  · have HO := Lib.hid (And.intro h0 (And.intro hT (And.intro hst (show doM S ⟨4, a, b, c⟩ = S by unfold doM; rw [hst, hT]))))
    have hid : (S.map a b c).id = 0 := change_id _ _ _ _
    have HID := Lib.hid hid; clear hid
    have hed : ((S.map a b c).e != 0) = true := by simpa using h0
    generalize hE : (S.map a b c).e = E at hed
    have HE := Lib.hid hE
    clear hst h0 hT hE
    go_enter Tryz.func7, Tryz.ntmps7
    go_upto_region 4 with (fail)
    have H1 := H0
    clear H0
    generalize (((w.alloc (.cells #[.slice va S.vols.length vc, .slice sa S.snaps.length sc] TRS)).alloc (.cells #[.int .i64 4, .int .i64 a, .int .i64 b, .int .i64 c] TVOp)).alloc (.cells #[.slice none 0 0, .slice none 0 0] TRS)).alloc (.cells #[.slice va S.vols.length vc, .slice sa S.snaps.length sc] TRS) = W1 at H1 ⊢
    generalize hBB : w.heap.size = B at H1 ⊢
    have c0 := cells_at H1.out.b0 0; have c1 := cells_at H1.out.b0 1; have x0 := cells_at H1.out.b1 0; have x1 := cells_at H1.out.b1 1; have x2 := cells_at H1.out.b1 2; have x3 := cells_at H1.out.b1 3; have r0 := cells_at H1.out.b2 0; have r1 := cells_at H1.out.b2 1; have n0 := cells_at H1.out.b3 0; have n1 := cells_at H1.out.b3 1; have g0 := thawed_at H1.out.b2 0; have g1 := thawed_at H1.out.b2 1; have m0 := thawed_at H1.out.b3 0; have m1 := thawed_at H1.out.b3 1
    go_upto_region 23 with (go_at_call 31; refine (HC.out _ H1.out.below).mono ?_; rintro e W3 ⟨xv, xs, rfl, h3⟩; rw [HE.out]; unfold RSp at h3; rw [HO.out.2.1] at h3; obtain ⟨rfl, rfl⟩ := h3.out.2; replace H1 := Lib.hid (H1.out.next h3.out.1); clear c0 c1 x0 x1 x2 x3 r0 r1 n0 n1 g0 g1 m0 m1; have c0 := cells_at H1.out.b0 0; have c1 := cells_at H1.out.b0 1; have x0 := cells_at H1.out.b1 0; have x1 := cells_at H1.out.b1 1; have x2 := cells_at H1.out.b1 2; have x3 := cells_at H1.out.b1 3; have r0 := cells_at H1.out.b2 0; have r1 := cells_at H1.out.b2 1; have n0 := cells_at H1.out.b3 0; have n1 := cells_at H1.out.b3 1; have g0 := thawed_at H1.out.b2 0; have g1 := thawed_at H1.out.b2 1; have m0 := thawed_at H1.out.b3 0; have m1 := thawed_at H1.out.b3 1; clear h3)
    have hq := H1.out.setN (.slice none 0 0) (.slice none 0 0)
    generalize (W3.setCell ⟨B + 3, 0, none⟩ (.slice none 0 0)).setCell ⟨B + 3, 1, none⟩ (.slice none 0 0) = W4 at hq ⊢
    replace H1 := Lib.hid hq
    clear c0 c1 x0 x1 x2 x3 r0 r1 n0 n1 g0 g1 m0 m1
    have c0 := cells_at H1.out.b0 0; have c1 := cells_at H1.out.b0 1; have x0 := cells_at H1.out.b1 0; have x1 := cells_at H1.out.b1 1; have x2 := cells_at H1.out.b1 2; have x3 := cells_at H1.out.b1 3; have r0 := cells_at H1.out.b2 0; have r1 := cells_at H1.out.b2 1; have n0 := cells_at H1.out.b3 0; have n1 := cells_at H1.out.b3 1; have g0 := thawed_at H1.out.b2 0; have g1 := thawed_at H1.out.b2 1; have m0 := thawed_at H1.out.b3 0; have m1 := thawed_at H1.out.b3 1
    clear hq
    go_wp2
    have HF := Lib.hid (H1.out.setR (.slice va S.vols.length vc) (.slice sa S.snaps.length sc))
    refine bodyPost_ret (results_c3 rfl rfl rfl rfl HF.out.b2) rfl ?_
    refine ⟨_, _, by rw [HO.out.2.2.1, HE.out, HID.out]; rfl, HF.out.below, ?_⟩
    rw [HO.out.2.2.2]
    exact (HS.out.1.below HF.out.below).weaken fun _ h _ => .inl h

set_option maxRecDepth 20000 in
set_option maxHeartbeats 4000000 in
theorem spec5_any {ok : Nat → Prop} (vv vs : Value) (S : SpaceM) (a b c : Int) (w : World) (hS : RefAt ok w vv vs S) (hwf : S.WF) :
    Calls Tryz.prog 7 #[.agg #[vv, vs], .agg #[.int .i64 5, .int .i64 a, .int .i64 b, .int .i64 c]] w (SpecOut ok w S ⟨5, a, b, c⟩) := by
  obtain ⟨va, vc, rfl, _⟩ := hS.v.slice
  obtain ⟨sa, sc, rfl, _⟩ := hS.s.slice
  have HS := Lib.hid (And.intro hS hwf)
  have H0 := Lib.hid (spc_new w (.slice va S.vols.length vc) (.slice sa S.snaps.length sc) (.int .i64 5) (.int .i64 a) (.int .i64 b) (.int .i64 c))
  clear hS hwf
  have hst : stepM S ⟨5, a, b, c⟩ = S.unmap a b := by simp [stepM]
  have HC := Lib.hid (fun (W : World) (hb : Below w.heap.size w W) => runmap_any (ok := fun b => ok b ∧ b < w.heap.size) (.slice va S.vols.length vc) (.slice sa S.snaps.length sc) S a b W ⟨in_ref HS.out.1.v hb, in_ref HS.out.1.s hb⟩ HS.out.2)
  rcases (show (S.unmap a b).Link from change_link _ _ _ _) with ⟨h0, T, hT⟩ | ⟨h0, hT⟩
  · have HO := Lib.hid (And.intro h0 (And.intro hT (And.intro hst (show doM S ⟨5, a, b, c⟩ = T by unfold doM; rw [hst, hT]))))
    have hid : (S.unmap a b).id = 0 := change_id _ _ _ _
    have HID := Lib.hid hid; clear hid
    clear hst h0 hT
    go_enter Tryz.func7, Tryz.ntmps7
    go_upto_region 4 with (fail)
    have H1 := H0
    clear H0
    generalize (((w.alloc (.cells #[.slice va S.vols.length vc, .slice sa S.snaps.length sc] TRS)).alloc (.cells #[.int .i64 5, .int .i64 a, .int .i64 b, .int .i64 c] TVOp)).alloc (.cells #[.slice none 0 0, .slice none 0 0] TRS)).alloc (.cells #[.slice va S.vols.length vc, .slice sa S.snaps.length sc] TRS) = W1 at H1 ⊢
    generalize hBB : w.heap.size = B at H1 ⊢
    have c0 := cells_at H1.out.b0 0; have c1 := cells_at H1.out.b0 1; have x0 := cells_at H1.out.b1 0; have x1 := cells_at H1.out.b1 1; have x2 := cells_at H1.out.b1 2; have x3 := cells_at H1.out.b1 3; have r0 := cells_at H1.out.b2 0; have r1 := cells_at H1.out.b2 1; have n0 := cells_at H1.out.b3 0; have n1 := cells_at H1.out.b3 1; have g0 := thawed_at H1.out.b2 0; have g1 := thawed_at H1.out.b2 1; have m0 := thawed_at H1.out.b3 0; have m1 := thawed_at H1.out.b3 1
    go_upto_region 23 with (go_at_call 32; refine (HC.out _ H1.out.below).mono ?_; rintro e W3 ⟨xv, xs, rfl, h3⟩; rw [HO.out.1]; unfold RSp at h3; rw [HO.out.2.1] at h3; obtain ⟨xa, xc, rfl, _⟩ := (show RefAt _ _ _ _ _ from h3.out.2).v.slice; obtain ⟨ya, yc, rfl, _⟩ := (show RefAt _ _ _ _ _ from h3.out.2).s.slice; have H3 := Lib.hid (And.intro (Array.getElem?_eq_some_iff.1 H1.out.b3).1 (show RefAt _ _ _ _ _ from h3.out.2)); replace H1 := Lib.hid (H1.out.next h3.out.1); clear c0 c1 x0 x1 x2 x3 r0 r1 n0 n1 g0 g1 m0 m1; have c0 := cells_at H1.out.b0 0; have c1 := cells_at H1.out.b0 1; have x0 := cells_at H1.out.b1 0; have x1 := cells_at H1.out.b1 1; have x2 := cells_at H1.out.b1 2; have x3 := cells_at H1.out.b1 3; have r0 := cells_at H1.out.b2 0; have r1 := cells_at H1.out.b2 1; have n0 := cells_at H1.out.b3 0; have n1 := cells_at H1.out.b3 1; have g0 := thawed_at H1.out.b2 0; have g1 := thawed_at H1.out.b2 1; have m0 := thawed_at H1.out.b3 0; have m1 := thawed_at H1.out.b3 1; clear h3)
    have hq := H1.out.setN (.slice xa T.vols.length xc) (.slice ya T.snaps.length yc)
    have ho : ∀ k, k ≠ B + 2 → k ≠ B + 3 → ((W3.setCell ⟨B + 3, 0, none⟩ (.slice xa T.vols.length xc)).setCell ⟨B + 3, 1, none⟩ (.slice ya T.snaps.length yc)).heap[k]? = W3.heap[k]? := fun k _ h2 => (heap_setCell_other _ _ _ _ h2).trans (heap_setCell_other _ _ _ _ h2)
    have hz : W3.heap.size ≤ ((W3.setCell ⟨B + 3, 0, none⟩ (.slice xa T.vols.length xc)).setCell ⟨B + 3, 1, none⟩ (.slice ya T.snaps.length yc)).heap.size := by simp [World.setCell]
    have HPR := Lib.hid (show ∀ bb, newer (fun b => ok b ∧ b < w.heap.size) W1 bb → bb ≠ B + 2 ∧ bb ≠ B + 3 ∧ newer ok w bb from by
      intro bb hb
      have := H3.out.1
      rcases hb with hb | hb
      · exact ⟨by omega, by omega, .inl hb.1⟩
      · exact ⟨by omega, by omega, .inr (by omega)⟩)
    have H4 := Lib.hid (H3.out.2.keep hz fun bb hb _ => ho bb (HPR.out bb hb).1 (HPR.out bb hb).2.1)
    generalize (W3.setCell ⟨B + 3, 0, none⟩ (.slice xa T.vols.length xc)).setCell ⟨B + 3, 1, none⟩ (.slice ya T.snaps.length yc) = W4 at hq H4 ⊢
    replace H1 := Lib.hid hq
    clear c0 c1 x0 x1 x2 x3 r0 r1 n0 n1 g0 g1 m0 m1
    have c0 := cells_at H1.out.b0 0; have c1 := cells_at H1.out.b0 1; have x0 := cells_at H1.out.b1 0; have x1 := cells_at H1.out.b1 1; have x2 := cells_at H1.out.b1 2; have x3 := cells_at H1.out.b1 3; have r0 := cells_at H1.out.b2 0; have r1 := cells_at H1.out.b2 1; have n0 := cells_at H1.out.b3 0; have n1 := cells_at H1.out.b3 1; have g0 := thawed_at H1.out.b2 0; have g1 := thawed_at H1.out.b2 1; have m0 := thawed_at H1.out.b3 0; have m1 := thawed_at H1.out.b3 1
    clear hq ho hz
    go_wp2
    have HF := Lib.hid (H1.out.setR (.slice xa T.vols.length xc) (.slice ya T.snaps.length yc))
    refine bodyPost_ret (results_c3 rfl rfl rfl rfl HF.out.b2) rfl ?_
    refine ⟨_, _, by rw [HO.out.2.2.1, HO.out.1, HID.out]; rfl, HF.out.below, ?_⟩
    rw [HO.out.2.2.2]
    exact finS HPR.out H4.out (by simp [World.setCell]) fun k h1 _ => (heap_setCell_other _ _ _ _ h1).trans (heap_setCell_other _ _ _ _ h1)
  · have HO := Lib.hid (And.intro h0 (And.intro hT (And.intro hst (show doM S ⟨5, a, b, c⟩ = S by unfold doM; rw [hst, hT]))))
    have hid : (S.unmap a b).id = 0 := change_id _ _ _ _
    have HID := Lib.hid hid; clear hid
    have hed : ((S.unmap a b).e != 0) = true := by simpa using h0
    generalize hE : (S.unmap a b).e = E at hed
    have HE := Lib.hid hE
    clear hst h0 hT hE
    go_enter Tryz.func7, Tryz.ntmps7
    go_upto_region 4 with (fail)
    have H1 := H0
    clear H0
    generalize (((w.alloc (.cells #[.slice va S.vols.length vc, .slice sa S.snaps.length sc] TRS)).alloc (.cells #[.int .i64 5, .int .i64 a, .int .i64 b, .int .i64 c] TVOp)).alloc (.cells #[.slice none 0 0, .slice none 0 0] TRS)).alloc (.cells #[.slice va S.vols.length vc, .slice sa S.snaps.length sc] TRS) = W1 at H1 ⊢
    generalize hBB : w.heap.size = B at H1 ⊢
    have c0 := cells_at H1.out.b0 0; have c1 := cells_at H1.out.b0 1; have x0 := cells_at H1.out.b1 0; have x1 := cells_at H1.out.b1 1; have x2 := cells_at H1.out.b1 2; have x3 := cells_at H1.out.b1 3; have r0 := cells_at H1.out.b2 0; have r1 := cells_at H1.out.b2 1; have n0 := cells_at H1.out.b3 0; have n1 := cells_at H1.out.b3 1; have g0 := thawed_at H1.out.b2 0; have g1 := thawed_at H1.out.b2 1; have m0 := thawed_at H1.out.b3 0; have m1 := thawed_at H1.out.b3 1
    go_upto_region 23 with (go_at_call 32; refine (HC.out _ H1.out.below).mono ?_; rintro e W3 ⟨xv, xs, rfl, h3⟩; rw [HE.out]; unfold RSp at h3; rw [HO.out.2.1] at h3; obtain ⟨rfl, rfl⟩ := h3.out.2; replace H1 := Lib.hid (H1.out.next h3.out.1); clear c0 c1 x0 x1 x2 x3 r0 r1 n0 n1 g0 g1 m0 m1; have c0 := cells_at H1.out.b0 0; have c1 := cells_at H1.out.b0 1; have x0 := cells_at H1.out.b1 0; have x1 := cells_at H1.out.b1 1; have x2 := cells_at H1.out.b1 2; have x3 := cells_at H1.out.b1 3; have r0 := cells_at H1.out.b2 0; have r1 := cells_at H1.out.b2 1; have n0 := cells_at H1.out.b3 0; have n1 := cells_at H1.out.b3 1; have g0 := thawed_at H1.out.b2 0; have g1 := thawed_at H1.out.b2 1; have m0 := thawed_at H1.out.b3 0; have m1 := thawed_at H1.out.b3 1; clear h3)
    have hq := H1.out.setN (.slice none 0 0) (.slice none 0 0)
    generalize (W3.setCell ⟨B + 3, 0, none⟩ (.slice none 0 0)).setCell ⟨B + 3, 1, none⟩ (.slice none 0 0) = W4 at hq ⊢
    replace H1 := Lib.hid hq
    clear c0 c1 x0 x1 x2 x3 r0 r1 n0 n1 g0 g1 m0 m1
    have c0 := cells_at H1.out.b0 0; have c1 := cells_at H1.out.b0 1; have x0 := cells_at H1.out.b1 0; have x1 := cells_at H1.out.b1 1; have x2 := cells_at H1.out.b1 2; have x3 := cells_at H1.out.b1 3; have r0 := cells_at H1.out.b2 0; have r1 := cells_at H1.out.b2 1; have n0 := cells_at H1.out.b3 0; have n1 := cells_at H1.out.b3 1; have g0 := thawed_at H1.out.b2 0; have g1 := thawed_at H1.out.b2 1; have m0 := thawed_at H1.out.b3 0; have m1 := thawed_at H1.out.b3 1
    clear hq
    go_wp2
    have HF := Lib.hid (H1.out.setR (.slice va S.vols.length vc) (.slice sa S.snaps.length sc))
    refine bodyPost_ret (results_c3 rfl rfl rfl rfl HF.out.b2) rfl ?_
    refine ⟨_, _, by rw [HO.out.2.2.1, HE.out, HID.out]; rfl, HF.out.below, ?_⟩
    rw [HO.out.2.2.2]
    exact (HS.out.1.below HF.out.below).weaken fun _ h _ => .inl h

set_option maxRecDepth 20000 in
set_option maxHeartbeats 4000000 in
theorem spec6_any {ok : Nat → Prop} (vv vs : Value) (S : SpaceM) (a b c : Int) (w : World) (hS : RefAt ok w vv vs S) (hwf : S.WF) :
    Calls Tryz.prog 7 #[.agg #[vv, vs], .agg #[.int .i64 6, .int .i64 a, .int .i64 b, .int .i64 c]] w (SpecOut ok w S ⟨6, a, b, c⟩) := by
  obtain ⟨va, vc, rfl, _⟩ := hS.v.slice
  obtain ⟨sa, sc, rfl, _⟩ := hS.s.slice
  have HS := Lib.hid (And.intro hS hwf)
  have H0 := Lib.hid (spc_new w (.slice va S.vols.length vc) (.slice sa S.snaps.length sc) (.int .i64 6) (.int .i64 a) (.int .i64 b) (.int .i64 c))
  clear hS hwf
  have hst : stepM S ⟨6, a, b, c⟩ = S.snapshot a := by simp [stepM]
  have HC := Lib.hid (fun (W : World) (hb : Below w.heap.size w W) => rsnapshot_any (ok := fun b => ok b ∧ b < w.heap.size) (.slice va S.vols.length vc) (.slice sa S.snaps.length sc) S a W ⟨in_ref HS.out.1.v hb, in_ref HS.out.1.s hb⟩ HS.out.2)
  rcases (show (S.snapshot a).Link from snapshot_link S a) with ⟨h0, T, hT⟩ | ⟨h0, hT⟩
  · have HO := Lib.hid (And.intro h0 (And.intro hT (And.intro hst (show doM S ⟨6, a, b, c⟩ = T by unfold doM; rw [hst, hT]))))
    skip
    skip
    clear hst h0 hT
    go_enter Tryz.func7, Tryz.ntmps7
    go_upto_region 4 with (fail)
    have H1 := H0
    clear H0
    generalize (((w.alloc (.cells #[.slice va S.vols.length vc, .slice sa S.snaps.length sc] TRS)).alloc (.cells #[.int .i64 6, .int .i64 a, .int .i64 b, .int .i64 c] TVOp)).alloc (.cells #[.slice none 0 0, .slice none 0 0] TRS)).alloc (.cells #[.slice va S.vols.length vc, .slice sa S.snaps.length sc] TRS) = W1 at H1 ⊢
    generalize hBB : w.heap.size = B at H1 ⊢
    have c0 := cells_at H1.out.b0 0; have c1 := cells_at H1.out.b0 1; have x0 := cells_at H1.out.b1 0; have x1 := cells_at H1.out.b1 1; have x2 := cells_at H1.out.b1 2; have x3 := cells_at H1.out.b1 3; have r0 := cells_at H1.out.b2 0; have r1 := cells_at H1.out.b2 1; have n0 := cells_at H1.out.b3 0; have n1 := cells_at H1.out.b3 1; have g0 := thawed_at H1.out.b2 0; have g1 := thawed_at H1.out.b2 1; have m0 := thawed_at H1.out.b3 0; have m1 := thawed_at H1.out.b3 1
    go_upto_region 23 with (go_at_call 33; refine (HC.out _ H1.out.below).mono ?_; rintro e W3 ⟨xv, xs, rfl, h3⟩; rw [HO.out.1]; unfold RSp at h3; rw [HO.out.2.1] at h3; obtain ⟨xa, xc, rfl, _⟩ := (show RefAt _ _ _ _ _ from h3.out.2).v.slice; obtain ⟨ya, yc, rfl, _⟩ := (show RefAt _ _ _ _ _ from h3.out.2).s.slice; have H3 := Lib.hid (And.intro (Array.getElem?_eq_some_iff.1 H1.out.b3).1 (show RefAt _ _ _ _ _ from h3.out.2)); replace H1 := Lib.hid (H1.out.next h3.out.1); clear c0 c1 x0 x1 x2 x3 r0 r1 n0 n1 g0 g1 m0 m1; have c0 := cells_at H1.out.b0 0; have c1 := cells_at H1.out.b0 1; have x0 := cells_at H1.out.b1 0; have x1 := cells_at H1.out.b1 1; have x2 := cells_at H1.out.b1 2; have x3 := cells_at H1.out.b1 3; have r0 := cells_at H1.out.b2 0; have r1 := cells_at H1.out.b2 1; have n0 := cells_at H1.out.b3 0; have n1 := cells_at H1.out.b3 1; have g0 := thawed_at H1.out.b2 0; have g1 := thawed_at H1.out.b2 1; have m0 := thawed_at H1.out.b3 0; have m1 := thawed_at H1.out.b3 1; clear h3)
    have hq := H1.out.setN (.slice xa T.vols.length xc) (.slice ya T.snaps.length yc)
    have ho : ∀ k, k ≠ B + 2 → k ≠ B + 3 → ((W3.setCell ⟨B + 3, 0, none⟩ (.slice xa T.vols.length xc)).setCell ⟨B + 3, 1, none⟩ (.slice ya T.snaps.length yc)).heap[k]? = W3.heap[k]? := fun k _ h2 => (heap_setCell_other _ _ _ _ h2).trans (heap_setCell_other _ _ _ _ h2)
    have hz : W3.heap.size ≤ ((W3.setCell ⟨B + 3, 0, none⟩ (.slice xa T.vols.length xc)).setCell ⟨B + 3, 1, none⟩ (.slice ya T.snaps.length yc)).heap.size := by simp [World.setCell]
    have HPR := Lib.hid (show ∀ bb, newer (fun b => ok b ∧ b < w.heap.size) W1 bb → bb ≠ B + 2 ∧ bb ≠ B + 3 ∧ newer ok w bb from by
      intro bb hb
      have := H3.out.1
      rcases hb with hb | hb
      · exact ⟨by omega, by omega, .inl hb.1⟩
      · exact ⟨by omega, by omega, .inr (by omega)⟩)
    have H4 := Lib.hid (H3.out.2.keep hz fun bb hb _ => ho bb (HPR.out bb hb).1 (HPR.out bb hb).2.1)
    generalize (W3.setCell ⟨B + 3, 0, none⟩ (.slice xa T.vols.length xc)).setCell ⟨B + 3, 1, none⟩ (.slice ya T.snaps.length yc) = W4 at hq H4 ⊢
    replace H1 := Lib.hid hq
    clear c0 c1 x0 x1 x2 x3 r0 r1 n0 n1 g0 g1 m0 m1
    have c0 := cells_at H1.out.b0 0; have c1 := cells_at H1.out.b0 1; have x0 := cells_at H1.out.b1 0; have x1 := cells_at H1.out.b1 1; have x2 := cells_at H1.out.b1 2; have x3 := cells_at H1.out.b1 3; have r0 := cells_at H1.out.b2 0; have r1 := cells_at H1.out.b2 1; have n0 := cells_at H1.out.b3 0; have n1 := cells_at H1.out.b3 1; have g0 := thawed_at H1.out.b2 0; have g1 := thawed_at H1.out.b2 1; have m0 := thawed_at H1.out.b3 0; have m1 := thawed_at H1.out.b3 1
    clear hq ho hz
    go_wp2
    have HF := Lib.hid (H1.out.setR (.slice xa T.vols.length xc) (.slice ya T.snaps.length yc))
    refine bodyPost_ret (results_c3 rfl rfl rfl rfl HF.out.b2) rfl ?_
    refine ⟨_, _, by rw [HO.out.2.2.1, HO.out.1]; rfl, HF.out.below, ?_⟩
    rw [HO.out.2.2.2]
    exact finS HPR.out H4.out (by simp [World.setCell]) fun k h1 _ => (heap_setCell_other _ _ _ _ h1).trans (heap_setCell_other _ _ _ _ h1)
  · have HO := Lib.hid (And.intro h0 (And.intro hT (And.intro hst (show doM S ⟨6, a, b, c⟩ = S by unfold doM; rw [hst, hT]))))
    skip
    skip
    have hed : ((S.snapshot a).e != 0) = true := by simpa using h0
    generalize hE : (S.snapshot a).e = E at hed
    have HE := Lib.hid hE
    clear hst h0 hT hE
    go_enter Tryz.func7, Tryz.ntmps7
    go_upto_region 4 with (fail)
    have H1 := H0
    clear H0
    generalize (((w.alloc (.cells #[.slice va S.vols.length vc, .slice sa S.snaps.length sc] TRS)).alloc (.cells #[.int .i64 6, .int .i64 a, .int .i64 b, .int .i64 c] TVOp)).alloc (.cells #[.slice none 0 0, .slice none 0 0] TRS)).alloc (.cells #[.slice va S.vols.length vc, .slice sa S.snaps.length sc] TRS) = W1 at H1 ⊢
    generalize hBB : w.heap.size = B at H1 ⊢
    have c0 := cells_at H1.out.b0 0; have c1 := cells_at H1.out.b0 1; have x0 := cells_at H1.out.b1 0; have x1 := cells_at H1.out.b1 1; have x2 := cells_at H1.out.b1 2; have x3 := cells_at H1.out.b1 3; have r0 := cells_at H1.out.b2 0; have r1 := cells_at H1.out.b2 1; have n0 := cells_at H1.out.b3 0; have n1 := cells_at H1.out.b3 1; have g0 := thawed_at H1.out.b2 0; have g1 := thawed_at H1.out.b2 1; have m0 := thawed_at H1.out.b3 0; have m1 := thawed_at H1.out.b3 1
    go_upto_region 23 with (go_at_call 33; refine (HC.out _ H1.out.below).mono ?_; rintro e W3 ⟨xv, xs, rfl, h3⟩; rw [HE.out]; unfold RSp at h3; rw [HO.out.2.1] at h3; obtain ⟨rfl, rfl⟩ := h3.out.2; replace H1 := Lib.hid (H1.out.next h3.out.1); clear c0 c1 x0 x1 x2 x3 r0 r1 n0 n1 g0 g1 m0 m1; have c0 := cells_at H1.out.b0 0; have c1 := cells_at H1.out.b0 1; have x0 := cells_at H1.out.b1 0; have x1 := cells_at H1.out.b1 1; have x2 := cells_at H1.out.b1 2; have x3 := cells_at H1.out.b1 3; have r0 := cells_at H1.out.b2 0; have r1 := cells_at H1.out.b2 1; have n0 := cells_at H1.out.b3 0; have n1 := cells_at H1.out.b3 1; have g0 := thawed_at H1.out.b2 0; have g1 := thawed_at H1.out.b2 1; have m0 := thawed_at H1.out.b3 0; have m1 := thawed_at H1.out.b3 1; clear h3)
    have hq := H1.out.setN (.slice none 0 0) (.slice none 0 0)
    generalize (W3.setCell ⟨B + 3, 0, none⟩ (.slice none 0 0)).setCell ⟨B + 3, 1, none⟩ (.slice none 0 0) = W4 at hq ⊢
    replace H1 := Lib.hid hq
    clear c0 c1 x0 x1 x2 x3 r0 r1 n0 n1 g0 g1 m0 m1
    have c0 := cells_at H1.out.b0 0; have c1 := cells_at H1.out.b0 1; have x0 := cells_at H1.out.b1 0; have x1 := cells_at H1.out.b1 1; have x2 := cells_at H1.out.b1 2; have x3 := cells_at H1.out.b1 3; have r0 := cells_at H1.out.b2 0; have r1 := cells_at H1.out.b2 1; have n0 := cells_at H1.out.b3 0; have n1 := cells_at H1.out.b3 1; have g0 := thawed_at H1.out.b2 0; have g1 := thawed_at H1.out.b2 1; have m0 := thawed_at H1.out.b3 0; have m1 := thawed_at H1.out.b3 1
    clear hq
    go_wp2
    have HF := Lib.hid (H1.out.setR (.slice va S.vols.length vc) (.slice sa S.snaps.length sc))
    refine bodyPost_ret (results_c3 rfl rfl rfl rfl HF.out.b2) rfl ?_
    refine ⟨_, _, by rw [HO.out.2.2.1, HE.out]; rfl, HF.out.below, ?_⟩
    rw [HO.out.2.2.2]
    exact (HS.out.1.below HF.out.below).weaken fun _ h _ => .inl h

set_option maxRecDepth 20000 in
set_option maxHeartbeats 4000000 in
theorem spec7_any {ok : Nat → Prop} (vv vs : Value) (S : SpaceM) (a b c : Int) (w : World) (hS : RefAt ok w vv vs S) (hwf : S.WF) :
    Calls Tryz.prog 7 #[.agg #[vv, vs], .agg #[.int .i64 7, .int .i64 a, .int .i64 b, .int .i64 c]] w (SpecOut ok w S ⟨7, a, b, c⟩) := by
  obtain ⟨va, vc, rfl, _⟩ := hS.v.slice
  obtain ⟨sa, sc, rfl, _⟩ := hS.s.slice
  have HS := Lib.hid (And.intro hS hwf)
  have H0 := Lib.hid (spc_new w (.slice va S.vols.length vc) (.slice sa S.snaps.length sc) (.int .i64 7) (.int .i64 a) (.int .i64 b) (.int .i64 c))
  clear hS hwf
  have hst : stepM S ⟨7, a, b, c⟩ = S.drop a := by simp [stepM]
  have HC := Lib.hid (fun (W : World) (hb : Below w.heap.size w W) => rdrop2_any (ok := fun b => ok b ∧ b < w.heap.size) (.slice va S.vols.length vc) (.slice sa S.snaps.length sc) S a W ⟨in_ref HS.out.1.v hb, in_ref HS.out.1.s hb⟩ HS.out.2)
  rcases (show (S.drop a).Link from drop_link S a) with ⟨h0, T, hT⟩ | ⟨h0, hT⟩
  · have HO := Lib.hid (And.intro h0 (And.intro hT (And.intro hst (show doM S ⟨7, a, b, c⟩ = T by unfold doM; rw [hst, hT]))))
    have hid : (S.drop a).id = 0 := drop_id S a
    have HID := Lib.hid hid; clear hid
    clear hst h0 hT
    go_enter Tryz.func7, Tryz.ntmps7
    go_upto_region 4 with (fail)
    have H1 := H0
    clear H0
    generalize (((w.alloc (.cells #[.slice va S.vols.length vc, .slice sa S.snaps.length sc] TRS)).alloc (.cells #[.int .i64 7, .int .i64 a, .int .i64 b, .int .i64 c] TVOp)).alloc (.cells #[.slice none 0 0, .slice none 0 0] TRS)).alloc (.cells #[.slice va S.vols.length vc, .slice sa S.snaps.length sc] TRS) = W1 at H1 ⊢
    generalize hBB : w.heap.size = B at H1 ⊢
    have c0 := cells_at H1.out.b0 0; have c1 := cells_at H1.out.b0 1; have x0 := cells_at H1.out.b1 0; have x1 := cells_at H1.out.b1 1; have x2 := cells_at H1.out.b1 2; have x3 := cells_at H1.out.b1 3; have r0 := cells_at H1.out.b2 0; have r1 := cells_at H1.out.b2 1; have n0 := cells_at H1.out.b3 0; have n1 := cells_at H1.out.b3 1; have g0 := thawed_at H1.out.b2 0; have g1 := thawed_at H1.out.b2 1; have m0 := thawed_at H1.out.b3 0; have m1 := thawed_at H1.out.b3 1
    go_upto_region 23 with (go_at_call 34; refine (HC.out _ H1.out.below).mono ?_; rintro e W3 ⟨xv, xs, rfl, h3⟩; rw [HO.out.1]; unfold RSp at h3; rw [HO.out.2.1] at h3; obtain ⟨xa, xc, rfl, _⟩ := (show RefAt _ _ _ _ _ from h3.out.2).v.slice; obtain ⟨ya, yc, rfl, _⟩ := (show RefAt _ _ _ _ _ from h3.out.2).s.slice; have H3 := Lib.hid (And.intro (Array.getElem?_eq_some_iff.1 H1.out.b3).1 (show RefAt _ _ _ _ _ from h3.out.2)); replace H1 := Lib.hid (H1.out.next h3.out.1); clear c0 c1 x0 x1 x2 x3 r0 r1 n0 n1 g0 g1 m0 m1; have c0 := cells_at H1.out.b0 0; have c1 := cells_at H1.out.b0 1; have x0 := cells_at H1.out.b1 0; have x1 := cells_at H1.out.b1 1; have x2 := cells_at H1.out.b1 2; have x3 := cells_at H1.out.b1 3; have r0 := cells_at H1.out.b2 0; have r1 := cells_at H1.out.b2 1; have n0 := cells_at H1.out.b3 0; have n1 := cells_at H1.out.b3 1; have g0 := thawed_at H1.out.b2 0; have g1 := thawed_at H1.out.b2 1; have m0 := thawed_at H1.out.b3 0; have m1 := thawed_at H1.out.b3 1; clear h3)
    have hq := H1.out.setN (.slice xa T.vols.length xc) (.slice ya T.snaps.length yc)
    have ho : ∀ k, k ≠ B + 2 → k ≠ B + 3 → ((W3.setCell ⟨B + 3, 0, none⟩ (.slice xa T.vols.length xc)).setCell ⟨B + 3, 1, none⟩ (.slice ya T.snaps.length yc)).heap[k]? = W3.heap[k]? := fun k _ h2 => (heap_setCell_other _ _ _ _ h2).trans (heap_setCell_other _ _ _ _ h2)
    have hz : W3.heap.size ≤ ((W3.setCell ⟨B + 3, 0, none⟩ (.slice xa T.vols.length xc)).setCell ⟨B + 3, 1, none⟩ (.slice ya T.snaps.length yc)).heap.size := by simp [World.setCell]
    have HPR := Lib.hid (show ∀ bb, newer (fun b => ok b ∧ b < w.heap.size) W1 bb → bb ≠ B + 2 ∧ bb ≠ B + 3 ∧ newer ok w bb from by
      intro bb hb
      have := H3.out.1
      rcases hb with hb | hb
      · exact ⟨by omega, by omega, .inl hb.1⟩
      · exact ⟨by omega, by omega, .inr (by omega)⟩)
    have H4 := Lib.hid (H3.out.2.keep hz fun bb hb _ => ho bb (HPR.out bb hb).1 (HPR.out bb hb).2.1)
    generalize (W3.setCell ⟨B + 3, 0, none⟩ (.slice xa T.vols.length xc)).setCell ⟨B + 3, 1, none⟩ (.slice ya T.snaps.length yc) = W4 at hq H4 ⊢
    replace H1 := Lib.hid hq
    clear c0 c1 x0 x1 x2 x3 r0 r1 n0 n1 g0 g1 m0 m1
    have c0 := cells_at H1.out.b0 0; have c1 := cells_at H1.out.b0 1; have x0 := cells_at H1.out.b1 0; have x1 := cells_at H1.out.b1 1; have x2 := cells_at H1.out.b1 2; have x3 := cells_at H1.out.b1 3; have r0 := cells_at H1.out.b2 0; have r1 := cells_at H1.out.b2 1; have n0 := cells_at H1.out.b3 0; have n1 := cells_at H1.out.b3 1; have g0 := thawed_at H1.out.b2 0; have g1 := thawed_at H1.out.b2 1; have m0 := thawed_at H1.out.b3 0; have m1 := thawed_at H1.out.b3 1
    clear hq ho hz
    go_wp2
    have HF := Lib.hid (H1.out.setR (.slice xa T.vols.length xc) (.slice ya T.snaps.length yc))
    refine bodyPost_ret (results_c3 rfl rfl rfl rfl HF.out.b2) rfl ?_
    refine ⟨_, _, by rw [HO.out.2.2.1, HO.out.1, HID.out]; rfl, HF.out.below, ?_⟩
    rw [HO.out.2.2.2]
    exact finS HPR.out H4.out (by simp [World.setCell]) fun k h1 _ => (heap_setCell_other _ _ _ _ h1).trans (heap_setCell_other _ _ _ _ h1)
  · have HO := Lib.hid (And.intro h0 (And.intro hT (And.intro hst (show doM S ⟨7, a, b, c⟩ = S by unfold doM; rw [hst, hT]))))
    have hid : (S.drop a).id = 0 := drop_id S a
    have HID := Lib.hid hid; clear hid
    have hed : ((S.drop a).e != 0) = true := by simpa using h0
    generalize hE : (S.drop a).e = E at hed
    have HE := Lib.hid hE
    clear hst h0 hT hE
    go_enter Tryz.func7, Tryz.ntmps7
    go_upto_region 4 with (fail)
    have H1 := H0
    clear H0
    generalize (((w.alloc (.cells #[.slice va S.vols.length vc, .slice sa S.snaps.length sc] TRS)).alloc (.cells #[.int .i64 7, .int .i64 a, .int .i64 b, .int .i64 c] TVOp)).alloc (.cells #[.slice none 0 0, .slice none 0 0] TRS)).alloc (.cells #[.slice va S.vols.length vc, .slice sa S.snaps.length sc] TRS) = W1 at H1 ⊢
    generalize hBB : w.heap.size = B at H1 ⊢
    have c0 := cells_at H1.out.b0 0; have c1 := cells_at H1.out.b0 1; have x0 := cells_at H1.out.b1 0; have x1 := cells_at H1.out.b1 1; have x2 := cells_at H1.out.b1 2; have x3 := cells_at H1.out.b1 3; have r0 := cells_at H1.out.b2 0; have r1 := cells_at H1.out.b2 1; have n0 := cells_at H1.out.b3 0; have n1 := cells_at H1.out.b3 1; have g0 := thawed_at H1.out.b2 0; have g1 := thawed_at H1.out.b2 1; have m0 := thawed_at H1.out.b3 0; have m1 := thawed_at H1.out.b3 1
    go_upto_region 23 with (go_at_call 34; refine (HC.out _ H1.out.below).mono ?_; rintro e W3 ⟨xv, xs, rfl, h3⟩; rw [HE.out]; unfold RSp at h3; rw [HO.out.2.1] at h3; obtain ⟨rfl, rfl⟩ := h3.out.2; replace H1 := Lib.hid (H1.out.next h3.out.1); clear c0 c1 x0 x1 x2 x3 r0 r1 n0 n1 g0 g1 m0 m1; have c0 := cells_at H1.out.b0 0; have c1 := cells_at H1.out.b0 1; have x0 := cells_at H1.out.b1 0; have x1 := cells_at H1.out.b1 1; have x2 := cells_at H1.out.b1 2; have x3 := cells_at H1.out.b1 3; have r0 := cells_at H1.out.b2 0; have r1 := cells_at H1.out.b2 1; have n0 := cells_at H1.out.b3 0; have n1 := cells_at H1.out.b3 1; have g0 := thawed_at H1.out.b2 0; have g1 := thawed_at H1.out.b2 1; have m0 := thawed_at H1.out.b3 0; have m1 := thawed_at H1.out.b3 1; clear h3)
    have hq := H1.out.setN (.slice none 0 0) (.slice none 0 0)
    generalize (W3.setCell ⟨B + 3, 0, none⟩ (.slice none 0 0)).setCell ⟨B + 3, 1, none⟩ (.slice none 0 0) = W4 at hq ⊢
    replace H1 := Lib.hid hq
    clear c0 c1 x0 x1 x2 x3 r0 r1 n0 n1 g0 g1 m0 m1
    have c0 := cells_at H1.out.b0 0; have c1 := cells_at H1.out.b0 1; have x0 := cells_at H1.out.b1 0; have x1 := cells_at H1.out.b1 1; have x2 := cells_at H1.out.b1 2; have x3 := cells_at H1.out.b1 3; have r0 := cells_at H1.out.b2 0; have r1 := cells_at H1.out.b2 1; have n0 := cells_at H1.out.b3 0; have n1 := cells_at H1.out.b3 1; have g0 := thawed_at H1.out.b2 0; have g1 := thawed_at H1.out.b2 1; have m0 := thawed_at H1.out.b3 0; have m1 := thawed_at H1.out.b3 1
    clear hq
    go_wp2
    have HF := Lib.hid (H1.out.setR (.slice va S.vols.length vc) (.slice sa S.snaps.length sc))
    refine bodyPost_ret (results_c3 rfl rfl rfl rfl HF.out.b2) rfl ?_
    refine ⟨_, _, by rw [HO.out.2.2.1, HE.out, HID.out]; rfl, HF.out.below, ?_⟩
    rw [HO.out.2.2.2]
    exact (HS.out.1.below HF.out.below).weaken fun _ h _ => .inl h

set_option maxRecDepth 20000 in
set_option maxHeartbeats 4000000 in
theorem spec8_any {ok : Nat → Prop} (vv vs : Value) (S : SpaceM) (a b c : Int) (w : World) (hS : RefAt ok w vv vs S) (hwf : S.WF) :
    Calls Tryz.prog 7 #[.agg #[vv, vs], .agg #[.int .i64 8, .int .i64 a, .int .i64 b, .int .i64 c]] w (SpecOut ok w S ⟨8, a, b, c⟩) := by
  obtain ⟨va, vc, rfl, _⟩ := hS.v.slice
  obtain ⟨sa, sc, rfl, _⟩ := hS.s.slice
  have HS := Lib.hid (And.intro hS hwf)
  have H0 := Lib.hid (spc_new w (.slice va S.vols.length vc) (.slice sa S.snaps.length sc) (.int .i64 8) (.int .i64 a) (.int .i64 b) (.int .i64 c))
  clear hS hwf
  have hst : stepM S ⟨8, a, b, c⟩ = S.clone a b := by simp [stepM]
  have HC := Lib.hid (fun (W : World) (hb : Below w.heap.size w W) => rclone_any (ok := fun b => ok b ∧ b < w.heap.size) (.slice va S.vols.length vc) (.slice sa S.snaps.length sc) S a b W ⟨in_ref HS.out.1.v hb, in_ref HS.out.1.s hb⟩ HS.out.2)
  rcases (show (S.clone a b).Link from clone_link S a b) with ⟨h0, T, hT⟩ | ⟨h0, hT⟩
  · have HO := Lib.hid (And.intro h0 (And.intro hT (And.intro hst (show doM S ⟨8, a, b, c⟩ = T by unfold doM; rw [hst, hT]))))
    skip
    skip
    clear hst h0 hT
    go_enter Tryz.func7, Tryz.ntmps7
    go_upto_region 4 with (fail)
    have H1 := H0
    clear H0
    generalize (((w.alloc (.cells #[.slice va S.vols.length vc, .slice sa S.snaps.length sc] TRS)).alloc (.cells #[.int .i64 8, .int .i64 a, .int .i64 b, .int .i64 c] TVOp)).alloc (.cells #[.slice none 0 0, .slice none 0 0] TRS)).alloc (.cells #[.slice va S.vols.length vc, .slice sa S.snaps.length sc] TRS) = W1 at H1 ⊢
    generalize hBB : w.heap.size = B at H1 ⊢
    have c0 := cells_at H1.out.b0 0; have c1 := cells_at H1.out.b0 1; have x0 := cells_at H1.out.b1 0; have x1 := cells_at H1.out.b1 1; have x2 := cells_at H1.out.b1 2; have x3 := cells_at H1.out.b1 3; have r0 := cells_at H1.out.b2 0; have r1 := cells_at H1.out.b2 1; have n0 := cells_at H1.out.b3 0; have n1 := cells_at H1.out.b3 1; have g0 := thawed_at H1.out.b2 0; have g1 := thawed_at H1.out.b2 1; have m0 := thawed_at H1.out.b3 0; have m1 := thawed_at H1.out.b3 1
    go_upto_region 23 with (go_at_call 35; refine (HC.out _ H1.out.below).mono ?_; rintro e W3 ⟨xv, xs, rfl, h3⟩; rw [HO.out.1]; unfold RSp at h3; rw [HO.out.2.1] at h3; obtain ⟨xa, xc, rfl, _⟩ := (show RefAt _ _ _ _ _ from h3.out.2).v.slice; obtain ⟨ya, yc, rfl, _⟩ := (show RefAt _ _ _ _ _ from h3.out.2).s.slice; have H3 := Lib.hid (And.intro (Array.getElem?_eq_some_iff.1 H1.out.b3).1 (show RefAt _ _ _ _ _ from h3.out.2)); replace H1 := Lib.hid (H1.out.next h3.out.1); clear c0 c1 x0 x1 x2 x3 r0 r1 n0 n1 g0 g1 m0 m1; have c0 := cells_at H1.out.b0 0; have c1 := cells_at H1.out.b0 1; have x0 := cells_at H1.out.b1 0; have x1 := cells_at H1.out.b1 1; have x2 := cells_at H1.out.b1 2; have x3 := cells_at H1.out.b1 3; have r0 := cells_at H1.out.b2 0; have r1 := cells_at H1.out.b2 1; have n0 := cells_at H1.out.b3 0; have n1 := cells_at H1.out.b3 1; have g0 := thawed_at H1.out.b2 0; have g1 := thawed_at H1.out.b2 1; have m0 := thawed_at H1.out.b3 0; have m1 := thawed_at H1.out.b3 1; clear h3)
    have hq := H1.out.setN (.slice xa T.vols.length xc) (.slice ya T.snaps.length yc)
    have ho : ∀ k, k ≠ B + 2 → k ≠ B + 3 → ((W3.setCell ⟨B + 3, 0, none⟩ (.slice xa T.vols.length xc)).setCell ⟨B + 3, 1, none⟩ (.slice ya T.snaps.length yc)).heap[k]? = W3.heap[k]? := fun k _ h2 => (heap_setCell_other _ _ _ _ h2).trans (heap_setCell_other _ _ _ _ h2)
    have hz : W3.heap.size ≤ ((W3.setCell ⟨B + 3, 0, none⟩ (.slice xa T.vols.length xc)).setCell ⟨B + 3, 1, none⟩ (.slice ya T.snaps.length yc)).heap.size := by simp [World.setCell]
    have HPR := Lib.hid (show ∀ bb, newer (fun b => ok b ∧ b < w.heap.size) W1 bb → bb ≠ B + 2 ∧ bb ≠ B + 3 ∧ newer ok w bb from by
      intro bb hb
      have := H3.out.1
      rcases hb with hb | hb
      · exact ⟨by omega, by omega, .inl hb.1⟩
      · exact ⟨by omega, by omega, .inr (by omega)⟩)
    have H4 := Lib.hid (H3.out.2.keep hz fun bb hb _ => ho bb (HPR.out bb hb).1 (HPR.out bb hb).2.1)
    generalize (W3.setCell ⟨B + 3, 0, none⟩ (.slice xa T.vols.length xc)).setCell ⟨B + 3, 1, none⟩ (.slice ya T.snaps.length yc) = W4 at hq H4 ⊢
    replace H1 := Lib.hid hq
    clear c0 c1 x0 x1 x2 x3 r0 r1 n0 n1 g0 g1 m0 m1
    have c0 := cells_at H1.out.b0 0; have c1 := cells_at H1.out.b0 1; have x0 := cells_at H1.out.b1 0; have x1 := cells_at H1.out.b1 1; have x2 := cells_at H1.out.b1 2; have x3 := cells_at H1.out.b1 3; have r0 := cells_at H1.out.b2 0; have r1 := cells_at H1.out.b2 1; have n0 := cells_at H1.out.b3 0; have n1 := cells_at H1.out.b3 1; have g0 := thawed_at H1.out.b2 0; have g1 := thawed_at H1.out.b2 1; have m0 := thawed_at H1.out.b3 0; have m1 := thawed_at H1.out.b3 1
    clear hq ho hz
    go_wp2
    have HF := Lib.hid (H1.out.setR (.slice xa T.vols.length xc) (.slice ya T.snaps.length yc))
    refine bodyPost_ret (results_c3 rfl rfl rfl rfl HF.out.b2) rfl ?_
    refine ⟨_, _, by rw [HO.out.2.2.1, HO.out.1]; rfl, HF.out.below, ?_⟩
    rw [HO.out.2.2.2]
    exact finS HPR.out H4.out (by simp [World.setCell]) fun k h1 _ => (heap_setCell_other _ _ _ _ h1).trans (heap_setCell_other _ _ _ _ h1)
  · have HO := Lib.hid (And.intro h0 (And.intro hT (And.intro hst (show doM S ⟨8, a, b, c⟩ = S by unfold doM; rw [hst, hT]))))
    skip
    skip
    have hed : ((S.clone a b).e != 0) = true := by simpa using h0
    generalize hE : (S.clone a b).e = E at hed
    have HE := Lib.hid hE
    clear hst h0 hT hE
    go_enter Tryz.func7, Tryz.ntmps7
    go_upto_region 4 with (fail)
    have H1 := H0
    clear H0
    generalize (((w.alloc (.cells #[.slice va S.vols.length vc, .slice sa S.snaps.length sc] TRS)).alloc (.cells #[.int .i64 8, .int .i64 a, .int .i64 b, .int .i64 c] TVOp)).alloc (.cells #[.slice none 0 0, .slice none 0 0] TRS)).alloc (.cells #[.slice va S.vols.length vc, .slice sa S.snaps.length sc] TRS) = W1 at H1 ⊢
    generalize hBB : w.heap.size = B at H1 ⊢
    have c0 := cells_at H1.out.b0 0; have c1 := cells_at H1.out.b0 1; have x0 := cells_at H1.out.b1 0; have x1 := cells_at H1.out.b1 1; have x2 := cells_at H1.out.b1 2; have x3 := cells_at H1.out.b1 3; have r0 := cells_at H1.out.b2 0; have r1 := cells_at H1.out.b2 1; have n0 := cells_at H1.out.b3 0; have n1 := cells_at H1.out.b3 1; have g0 := thawed_at H1.out.b2 0; have g1 := thawed_at H1.out.b2 1; have m0 := thawed_at H1.out.b3 0; have m1 := thawed_at H1.out.b3 1
    go_upto_region 23 with (go_at_call 35; refine (HC.out _ H1.out.below).mono ?_; rintro e W3 ⟨xv, xs, rfl, h3⟩; rw [HE.out]; unfold RSp at h3; rw [HO.out.2.1] at h3; obtain ⟨rfl, rfl⟩ := h3.out.2; replace H1 := Lib.hid (H1.out.next h3.out.1); clear c0 c1 x0 x1 x2 x3 r0 r1 n0 n1 g0 g1 m0 m1; have c0 := cells_at H1.out.b0 0; have c1 := cells_at H1.out.b0 1; have x0 := cells_at H1.out.b1 0; have x1 := cells_at H1.out.b1 1; have x2 := cells_at H1.out.b1 2; have x3 := cells_at H1.out.b1 3; have r0 := cells_at H1.out.b2 0; have r1 := cells_at H1.out.b2 1; have n0 := cells_at H1.out.b3 0; have n1 := cells_at H1.out.b3 1; have g0 := thawed_at H1.out.b2 0; have g1 := thawed_at H1.out.b2 1; have m0 := thawed_at H1.out.b3 0; have m1 := thawed_at H1.out.b3 1; clear h3)
    have hq := H1.out.setN (.slice none 0 0) (.slice none 0 0)
    generalize (W3.setCell ⟨B + 3, 0, none⟩ (.slice none 0 0)).setCell ⟨B + 3, 1, none⟩ (.slice none 0 0) = W4 at hq ⊢
    replace H1 := Lib.hid hq
    clear c0 c1 x0 x1 x2 x3 r0 r1 n0 n1 g0 g1 m0 m1
    have c0 := cells_at H1.out.b0 0; have c1 := cells_at H1.out.b0 1; have x0 := cells_at H1.out.b1 0; have x1 := cells_at H1.out.b1 1; have x2 := cells_at H1.out.b1 2; have x3 := cells_at H1.out.b1 3; have r0 := cells_at H1.out.b2 0; have r1 := cells_at H1.out.b2 1; have n0 := cells_at H1.out.b3 0; have n1 := cells_at H1.out.b3 1; have g0 := thawed_at H1.out.b2 0; have g1 := thawed_at H1.out.b2 1; have m0 := thawed_at H1.out.b3 0; have m1 := thawed_at H1.out.b3 1
    clear hq
    go_wp2
    have HF := Lib.hid (H1.out.setR (.slice va S.vols.length vc) (.slice sa S.snaps.length sc))
    refine bodyPost_ret (results_c3 rfl rfl rfl rfl HF.out.b2) rfl ?_
    refine ⟨_, _, by rw [HO.out.2.2.1, HE.out]; rfl, HF.out.below, ?_⟩
    rw [HO.out.2.2.2]
    exact (HS.out.1.below HF.out.below).weaken fun _ h _ => .inl h

set_option maxRecDepth 20000 in
set_option maxHeartbeats 4000000 in
theorem spec9_any {ok : Nat → Prop} (vv vs : Value) (S : SpaceM) (a b c : Int) (w : World) (hS : RefAt ok w vv vs S) (hwf : S.WF) :
    Calls Tryz.prog 7 #[.agg #[vv, vs], .agg #[.int .i64 9, .int .i64 a, .int .i64 b, .int .i64 c]] w (SpecOut ok w S ⟨9, a, b, c⟩) := by
  obtain ⟨va, vc, rfl, _⟩ := hS.v.slice
  obtain ⟨sa, sc, rfl, _⟩ := hS.s.slice
  have HS := Lib.hid (And.intro hS hwf)
  have H0 := Lib.hid (spc_new w (.slice va S.vols.length vc) (.slice sa S.snaps.length sc) (.int .i64 9) (.int .i64 a) (.int .i64 b) (.int .i64 c))
  clear hS hwf
  have hst : stepM S ⟨9, a, b, c⟩ = S.restore a b := by simp [stepM]
  have HC := Lib.hid (fun (W : World) (hb : Below w.heap.size w W) => rrestore_any (ok := fun b => ok b ∧ b < w.heap.size) (.slice va S.vols.length vc) (.slice sa S.snaps.length sc) S a b W ⟨in_ref HS.out.1.v hb, in_ref HS.out.1.s hb⟩ HS.out.2)
  rcases (show (S.restore a b).Link from restore_link S a b) with ⟨h0, T, hT⟩ | ⟨h0, hT⟩
  · have HO := Lib.hid (And.intro h0 (And.intro hT (And.intro hst (show doM S ⟨9, a, b, c⟩ = T by unfold doM; rw [hst, hT]))))
    have hid : (S.restore a b).id = 0 := restore_id S a b
    have HID := Lib.hid hid; clear hid
    clear hst h0 hT
    go_enter Tryz.func7, Tryz.ntmps7
    go_upto_region 4 with (fail)
    have H1 := H0
    clear H0
    generalize (((w.alloc (.cells #[.slice va S.vols.length vc, .slice sa S.snaps.length sc] TRS)).alloc (.cells #[.int .i64 9, .int .i64 a, .int .i64 b, .int .i64 c] TVOp)).alloc (.cells #[.slice none 0 0, .slice none 0 0] TRS)).alloc (.cells #[.slice va S.vols.length vc, .slice sa S.snaps.length sc] TRS) = W1 at H1 ⊢
    generalize hBB : w.heap.size = B at H1 ⊢
    have c0 := cells_at H1.out.b0 0; have c1 := cells_at H1.out.b0 1; have x0 := cells_at H1.out.b1 0; have x1 := cells_at H1.out.b1 1; have x2 := cells_at H1.out.b1 2; have x3 := cells_at H1.out.b1 3; have r0 := cells_at H1.out.b2 0; have r1 := cells_at H1.out.b2 1; have n0 := cells_at H1.out.b3 0; have n1 := cells_at H1.out.b3 1; have g0 := thawed_at H1.out.b2 0; have g1 := thawed_at H1.out.b2 1; have m0 := thawed_at H1.out.b3 0; have m1 := thawed_at H1.out.b3 1
    go_upto_region 23 with (go_at_call 36; refine (HC.out _ H1.out.below).mono ?_; rintro e W3 ⟨xv, xs, rfl, h3⟩; rw [HO.out.1]; unfold RSp at h3; rw [HO.out.2.1] at h3; obtain ⟨xa, xc, rfl, _⟩ := (show RefAt _ _ _ _ _ from h3.out.2).v.slice; obtain ⟨ya, yc, rfl, _⟩ := (show RefAt _ _ _ _ _ from h3.out.2).s.slice; have H3 := Lib.hid (And.intro (Array.getElem?_eq_some_iff.1 H1.out.b3).1 (show RefAt _ _ _ _ _ from h3.out.2)); replace H1 := Lib.hid (H1.out.next h3.out.1); clear c0 c1 x0 x1 x2 x3 r0 r1 n0 n1 g0 g1 m0 m1; have c0 := cells_at H1.out.b0 0; have c1 := cells_at H1.out.b0 1; have x0 := cells_at H1.out.b1 0; have x1 := cells_at H1.out.b1 1; have x2 := cells_at H1.out.b1 2; have x3 := cells_at H1.out.b1 3; have r0 := cells_at H1.out.b2 0; have r1 := cells_at H1.out.b2 1; have n0 := cells_at H1.out.b3 0; have n1 := cells_at H1.out.b3 1; have g0 := thawed_at H1.out.b2 0; have g1 := thawed_at H1.out.b2 1; have m0 := thawed_at H1.out.b3 0; have m1 := thawed_at H1.out.b3 1; clear h3)
    have hq := H1.out.setN (.slice xa T.vols.length xc) (.slice ya T.snaps.length yc)
    have ho : ∀ k, k ≠ B + 2 → k ≠ B + 3 → ((W3.setCell ⟨B + 3, 0, none⟩ (.slice xa T.vols.length xc)).setCell ⟨B + 3, 1, none⟩ (.slice ya T.snaps.length yc)).heap[k]? = W3.heap[k]? := fun k _ h2 => (heap_setCell_other _ _ _ _ h2).trans (heap_setCell_other _ _ _ _ h2)
    have hz : W3.heap.size ≤ ((W3.setCell ⟨B + 3, 0, none⟩ (.slice xa T.vols.length xc)).setCell ⟨B + 3, 1, none⟩ (.slice ya T.snaps.length yc)).heap.size := by simp [World.setCell]
    have HPR := Lib.hid (show ∀ bb, newer (fun b => ok b ∧ b < w.heap.size) W1 bb → bb ≠ B + 2 ∧ bb ≠ B + 3 ∧ newer ok w bb from by
      intro bb hb
      have := H3.out.1
      rcases hb with hb | hb
      · exact ⟨by omega, by omega, .inl hb.1⟩
      · exact ⟨by omega, by omega, .inr (by omega)⟩)
    have H4 := Lib.hid (H3.out.2.keep hz fun bb hb _ => ho bb (HPR.out bb hb).1 (HPR.out bb hb).2.1)
    generalize (W3.setCell ⟨B + 3, 0, none⟩ (.slice xa T.vols.length xc)).setCell ⟨B + 3, 1, none⟩ (.slice ya T.snaps.length yc) = W4 at hq H4 ⊢
    replace H1 := Lib.hid hq
    clear c0 c1 x0 x1 x2 x3 r0 r1 n0 n1 g0 g1 m0 m1
    have c0 := cells_at H1.out.b0 0; have c1 := cells_at H1.out.b0 1; have x0 := cells_at H1.out.b1 0; have x1 := cells_at H1.out.b1 1; have x2 := cells_at H1.out.b1 2; have x3 := cells_at H1.out.b1 3; have r0 := cells_at H1.out.b2 0; have r1 := cells_at H1.out.b2 1; have n0 := cells_at H1.out.b3 0; have n1 := cells_at H1.out.b3 1; have g0 := thawed_at H1.out.b2 0; have g1 := thawed_at H1.out.b2 1; have m0 := thawed_at H1.out.b3 0; have m1 := thawed_at H1.out.b3 1
    clear hq ho hz
    go_wp2
    have HF := Lib.hid (H1.out.setR (.slice xa T.vols.length xc) (.slice ya T.snaps.length yc))
    refine bodyPost_ret (results_c3 rfl rfl rfl rfl HF.out.b2) rfl ?_
    refine ⟨_, _, by rw [HO.out.2.2.1, HO.out.1, HID.out]; rfl, HF.out.below, ?_⟩
    rw [HO.out.2.2.2]
    exact finS HPR.out H4.out (by simp [World.setCell]) fun k h1 _ => (heap_setCell_other _ _ _ _ h1).trans (heap_setCell_other _ _ _ _ h1)
  · have HO := Lib.hid (And.intro h0 (And.intro hT (And.intro hst (show doM S ⟨9, a, b, c⟩ = S by unfold doM; rw [hst, hT]))))
    have hid : (S.restore a b).id = 0 := restore_id S a b
    have HID := Lib.hid hid; clear hid
    have hed : ((S.restore a b).e != 0) = true := by simpa using h0
    generalize hE : (S.restore a b).e = E at hed
    have HE := Lib.hid hE
    clear hst h0 hT hE
    go_enter Tryz.func7, Tryz.ntmps7
    go_upto_region 4 with (fail)
    have H1 := H0
    clear H0
    generalize (((w.alloc (.cells #[.slice va S.vols.length vc, .slice sa S.snaps.length sc] TRS)).alloc (.cells #[.int .i64 9, .int .i64 a, .int .i64 b, .int .i64 c] TVOp)).alloc (.cells #[.slice none 0 0, .slice none 0 0] TRS)).alloc (.cells #[.slice va S.vols.length vc, .slice sa S.snaps.length sc] TRS) = W1 at H1 ⊢
    generalize hBB : w.heap.size = B at H1 ⊢
    have c0 := cells_at H1.out.b0 0; have c1 := cells_at H1.out.b0 1; have x0 := cells_at H1.out.b1 0; have x1 := cells_at H1.out.b1 1; have x2 := cells_at H1.out.b1 2; have x3 := cells_at H1.out.b1 3; have r0 := cells_at H1.out.b2 0; have r1 := cells_at H1.out.b2 1; have n0 := cells_at H1.out.b3 0; have n1 := cells_at H1.out.b3 1; have g0 := thawed_at H1.out.b2 0; have g1 := thawed_at H1.out.b2 1; have m0 := thawed_at H1.out.b3 0; have m1 := thawed_at H1.out.b3 1
    go_upto_region 23 with (go_at_call 36; refine (HC.out _ H1.out.below).mono ?_; rintro e W3 ⟨xv, xs, rfl, h3⟩; rw [HE.out]; unfold RSp at h3; rw [HO.out.2.1] at h3; obtain ⟨rfl, rfl⟩ := h3.out.2; replace H1 := Lib.hid (H1.out.next h3.out.1); clear c0 c1 x0 x1 x2 x3 r0 r1 n0 n1 g0 g1 m0 m1; have c0 := cells_at H1.out.b0 0; have c1 := cells_at H1.out.b0 1; have x0 := cells_at H1.out.b1 0; have x1 := cells_at H1.out.b1 1; have x2 := cells_at H1.out.b1 2; have x3 := cells_at H1.out.b1 3; have r0 := cells_at H1.out.b2 0; have r1 := cells_at H1.out.b2 1; have n0 := cells_at H1.out.b3 0; have n1 := cells_at H1.out.b3 1; have g0 := thawed_at H1.out.b2 0; have g1 := thawed_at H1.out.b2 1; have m0 := thawed_at H1.out.b3 0; have m1 := thawed_at H1.out.b3 1; clear h3)
    have hq := H1.out.setN (.slice none 0 0) (.slice none 0 0)
    generalize (W3.setCell ⟨B + 3, 0, none⟩ (.slice none 0 0)).setCell ⟨B + 3, 1, none⟩ (.slice none 0 0) = W4 at hq ⊢
    replace H1 := Lib.hid hq
    clear c0 c1 x0 x1 x2 x3 r0 r1 n0 n1 g0 g1 m0 m1
    have c0 := cells_at H1.out.b0 0; have c1 := cells_at H1.out.b0 1; have x0 := cells_at H1.out.b1 0; have x1 := cells_at H1.out.b1 1; have x2 := cells_at H1.out.b1 2; have x3 := cells_at H1.out.b1 3; have r0 := cells_at H1.out.b2 0; have r1 := cells_at H1.out.b2 1; have n0 := cells_at H1.out.b3 0; have n1 := cells_at H1.out.b3 1; have g0 := thawed_at H1.out.b2 0; have g1 := thawed_at H1.out.b2 1; have m0 := thawed_at H1.out.b3 0; have m1 := thawed_at H1.out.b3 1
    clear hq
    go_wp2
    have HF := Lib.hid (H1.out.setR (.slice va S.vols.length vc) (.slice sa S.snaps.length sc))
    refine bodyPost_ret (results_c3 rfl rfl rfl rfl HF.out.b2) rfl ?_
    refine ⟨_, _, by rw [HO.out.2.2.1, HE.out, HID.out]; rfl, HF.out.below, ?_⟩
    rw [HO.out.2.2.2]
    exact (HS.out.1.below HF.out.below).weaken fun _ h _ => .inl h

set_option maxRecDepth 20000 in
set_option maxHeartbeats 4000000 in
theorem spec0_any {ok : Nat → Prop} (vv vs : Value) (S : SpaceM) (od a b c : Int) (w : World) (hS : RefAt ok w vv vs S) (hwf : S.WF) (hod : od ≠ 1 ∧ od ≠ 2 ∧ od ≠ 3 ∧ od ≠ 4 ∧ od ≠ 5 ∧ od ≠ 6 ∧ od ≠ 7 ∧ od ≠ 8 ∧ od ≠ 9) :
    Calls Tryz.prog 7 #[.agg #[vv, vs], .agg #[.int .i64 od, .int .i64 a, .int .i64 b, .int .i64 c]] w (SpecOut ok w S ⟨od, a, b, c⟩) := by
  obtain ⟨va, vc, rfl, _⟩ := hS.v.slice
  obtain ⟨sa, sc, rfl, _⟩ := hS.s.slice
  have HS := Lib.hid (And.intro hS hwf)
  have H0 := Lib.hid (spc_new w (.slice va S.vols.length vc) (.slice sa S.snaps.length sc) (.int .i64 od) (.int .i64 a) (.int .i64 b) (.int .i64 c))
  clear hS hwf
  have HO := Lib.hid (show stepM S ⟨od, a, b, c⟩ = ⟨some S, 0, 0⟩ ∧ doM S ⟨od, a, b, c⟩ = S from by
    have hst : stepM S ⟨od, a, b, c⟩ = ⟨some S, 0, 0⟩ := by
      unfold stepM
      simp only
      rw [if_neg hod.1, if_neg hod.2.1, if_neg hod.2.2.1, if_neg hod.2.2.2.1, if_neg hod.2.2.2.2.1, if_neg hod.2.2.2.2.2.1, if_neg hod.2.2.2.2.2.2.1, if_neg hod.2.2.2.2.2.2.2.1, if_neg hod.2.2.2.2.2.2.2.2]
    exact ⟨hst, by unfold doM; rw [hst]⟩)
  have e1 : (od == 1) = false := by simp; omega
  have e2 : (od == 2) = false := by simp; omega
  have e3 : (od == 3) = false := by simp; omega
  have e4 : (od == 4) = false := by simp; omega
  have e5 : (od == 5) = false := by simp; omega
  have e6 : (od == 6) = false := by simp; omega
  have e7 : (od == 7) = false := by simp; omega
  have e8 : (od == 8) = false := by simp; omega
  have e9 : (od == 9) = false := by simp; omega
  clear hod
  go_enter Tryz.func7, Tryz.ntmps7
  go_upto_region 4 with (fail)
  have H1 := H0
  clear H0
  generalize (((w.alloc (.cells #[.slice va S.vols.length vc, .slice sa S.snaps.length sc] TRS)).alloc (.cells #[.int .i64 od, .int .i64 a, .int .i64 b, .int .i64 c] TVOp)).alloc (.cells #[.slice none 0 0, .slice none 0 0] TRS)).alloc (.cells #[.slice va S.vols.length vc, .slice sa S.snaps.length sc] TRS) = W1 at H1 ⊢
  generalize hBB : w.heap.size = B at H1 ⊢
  have c0 := cells_at H1.out.b0 0; have c1 := cells_at H1.out.b0 1; have x0 := cells_at H1.out.b1 0; have x1 := cells_at H1.out.b1 1; have x2 := cells_at H1.out.b1 2; have x3 := cells_at H1.out.b1 3; have r0 := cells_at H1.out.b2 0; have r1 := cells_at H1.out.b2 1; have n0 := cells_at H1.out.b3 0; have n1 := cells_at H1.out.b3 1; have g0 := thawed_at H1.out.b2 0; have g1 := thawed_at H1.out.b2 1; have m0 := thawed_at H1.out.b3 0; have m1 := thawed_at H1.out.b3 1
  go_wp2
  have HF := Lib.hid (H1.out.setR (.slice va S.vols.length vc) (.slice sa S.snaps.length sc))
  refine bodyPost_ret (results_c3 rfl rfl rfl rfl HF.out.b2) rfl ?_
  refine ⟨_, _, by rw [HO.out.1]; rfl, HF.out.below, ?_⟩
  rw [HO.out.2]
  exact (HS.out.1.below HF.out.below).weaken fun _ h _ => .inl h

theorem spec_any {ok : Nat → Prop} (vv vs : Value) (S : SpaceM) (o : VOp) (w : World) (hS : RefAt ok w vv vs S) (hwf : S.WF) :
    Calls Tryz.prog 7 #[.agg #[vv, vs], .agg #[.int .i64 o.d, .int .i64 o.a, .int .i64 o.b, .int .i64 o.c]] w (SpecOut ok w S o) := by
  obtain ⟨od, a, b, c⟩ := o
  by_cases h1 : od = 1
  · subst h1; exact spec1_any vv vs S a b c w hS hwf
  by_cases h2 : od = 2
  · subst h2; exact spec2_any vv vs S a b c w hS hwf
  by_cases h3 : od = 3
  · subst h3; exact spec3_any vv vs S a b c w hS hwf
  by_cases h4 : od = 4
  · subst h4; exact spec4_any vv vs S a b c w hS hwf
  by_cases h5 : od = 5
  · subst h5; exact spec5_any vv vs S a b c w hS hwf
  by_cases h6 : od = 6
  · subst h6; exact spec6_any vv vs S a b c w hS hwf
  by_cases h7 : od = 7
  · subst h7; exact spec7_any vv vs S a b c w hS hwf
  by_cases h8 : od = 8
  · subst h8; exact spec8_any vv vs S a b c w hS hwf
  by_cases h9 : od = 9
  · subst h9; exact spec9_any vv vs S a b c w hS hwf
  exact spec0_any vv vs S od a b c w hS hwf ⟨h1, h2, h3, h4, h5, h6, h7, h8, h9⟩
end Go.Proofs.YtednjhlkhecihaaGreatDoor
