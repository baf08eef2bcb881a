/- wal.read. -/
import Derived.Test.YtbegomjbakidmaaGe
import Derived.Test.YtbegomjbakidmaaSd
namespace Go.Proofs.Ytbegomjbakidmaa
open Go.RowKit Go.Sl Go.ChangeMaps

abbrev TPart : TypeId := 97
def zPart : Array Value := #[.int .i64 0, .int .i64 0, .int .i64 0, .int .i64 0, .int .i64 0, .int .i64 0, .string (strB [])]
abbrev partA (x : PartM) : Array Value := #[.int .i64 x.gen.epoch, .int .i64 x.gen.count, .int .i64 x.before.epoch, .int .i64 x.before.count, .int .i64 x.number, .int .i64 x.left, .string (strB x.bytes)]
def partO (r : Option PartM) : Array Value := match r with | some x => partA x | none => zPart
theorem zeroPart (w : World) : (zeroValue TPart).run Try.prog w = .ok (.agg zPart) w := by kernel_rfl
theorem infoPart {c : Array Value} (h : c.size = 7) : (Try.prog.info? TPart).map (·.size) = some c.size := by rw [h]; kernel_rfl
theorem zPart_cells {w : World} {B : Nat} {X : HProp} (h : Sat w (pts B (.cells zPart TPart (0, 0)) * X)) :
    (w.cell? ⟨B, 0, none⟩ = some (.int .i64 0) ∧ w.cell? ⟨B, 1, none⟩ = some (.int .i64 0) ∧ w.cell? ⟨B, 2, none⟩ = some (.int .i64 0) ∧ w.cell? ⟨B, 3, none⟩ = some (.int .i64 0) ∧ w.cell? ⟨B, 4, none⟩ = some (.int .i64 0) ∧ w.cell? ⟨B, 5, none⟩ = some (.int .i64 0) ∧ w.cell? ⟨B, 6, none⟩ = some (.string (strB []))) ∧
    (w.frozen? ⟨B, 0, none⟩ = false ∧ w.frozen? ⟨B, 1, none⟩ = false ∧ w.frozen? ⟨B, 2, none⟩ = false ∧ w.frozen? ⟨B, 3, none⟩ = false ∧ w.frozen? ⟨B, 4, none⟩ = false ∧ w.frozen? ⟨B, 5, none⟩ = false ∧ w.frozen? ⟨B, 6, none⟩ = false) ∧ B < w.heap.size := by
  have h1 := cells_at h.block
  have f1 := thawed_at h.block
  exact ⟨⟨h1 0, h1 1, h1 2, h1 3, h1 4, h1 5, h1 6⟩, ⟨f1 0, f1 1, f1 2, f1 3, f1 4, f1 5, f1 6⟩, h.lt⟩
def set7 (w : World) (B : Nat) (a b c d e f g : Value) : World := ((((((w.setCell ⟨B, 0, none⟩ a).setCell ⟨B, 1, none⟩ b).setCell ⟨B, 2, none⟩ c).setCell ⟨B, 3, none⟩ d).setCell ⟨B, 4, none⟩ e).setCell ⟨B, 5, none⟩ f).setCell ⟨B, 6, none⟩ g
theorem set7_sat {w w0 : World} {B : Nat} {X : HProp} (hm : Same w0 w) (h : Sat w (pts B (.cells zPart TPart (0, 0)) * X)) (a b c d e f g : Value) : Same w0 (set7 w B a b c d e f g) ∧ Sat (set7 w B a b c d e f g) (pts B (.cells #[a, b, c, d, e, f, g] TPart (0, 0)) * X) :=
  ⟨((((((hm.setCell _ _).setCell _ _).setCell _ _).setCell _ _).setCell _ _).setCell _ _).setCell _ _, ((((((h.setCell (i := 0) a).setCell (i := 1) b).setCell (i := 2) c).setCell (i := 3) d).setCell (i := 4) e).setCell (i := 5) f).setCell (i := 6) g⟩
theorem pl_cells3 {w : World} {B : Nat} {x y z : Int} {X : HProp} (h : Sat w (pts B (.cells #[.int .i64 x, .int .i64 y, .int .i64 z] TPl (0, 0)) * X)) : w.cell? ⟨B, 0, none⟩ = some (.int .i64 x) ∧ w.cell? ⟨B, 1, none⟩ = some (.int .i64 y) ∧ w.cell? ⟨B, 2, none⟩ = some (.int .i64 z) ∧ B < w.heap.size := by
  have h1 := cells_at h.block
  exact ⟨h1 0, h1 1, h1 2, h.lt⟩
set_option maxHeartbeats 1000000 in
set_option maxRecDepth 20000 in
theorem wread_out (p : Nat) (S : ShelfM) (F : HProp) (d : Int) (i : Nat) (N : Nat) (f : Nat → List UInt8) (hN : (N : Int) = logN S.cfg) (hd : 0 ≤ d ∧ d < 64) (hi : N ≤ i) (w : World) (hS : Sat w (shelfAt SH p S * F)) :
    Calls Try.prog 49 #[.pointer (some ⟨p, 0, none⟩), .int .i64 d, .int .i64 (i : Int)] w fun e w' => e = .returned (.tuple #[.agg zPart, .bool false, .int .i64 0]) ∧ Hid (Same w w' ∧ Sat w' (shelfAt SH p S * F)) := by
  have hwf := (shelfAt_wf hS).cfg.log
  have HC := Lib.hid (show ∀ W X, Sat W (X * (pts (w.heap.size + 1) (.cells #[.int .i64 d, .int .i64 1, .int .i64 (i : Int)] TPl (0, 0)) * (shelfAt SH p S * F))) → Calls Try.prog 31 #[.pointer (some ⟨p, 0, none⟩)] W fun e w' => e = .returned (.agg (cfgA S.cfg)) ∧ Below W.heap.size W w' from fun W X h => config_any p S F W h.right.right)
  have hw := fun W => wsectors_any S.cfg hwf.2 (by omega) W
  rw [← hN] at hw
  have HW := Lib.hid hw
  have hlt : decide (N ≤ i) = true := decide_eq_true (by omega)
  have H1 := Lib.hid (And.intro (((Same.refl w).alloc (.cells zPart TPart)).alloc (.cells #[.int .i64 d, .int .i64 1, .int .i64 (i : Int)] TPl)) (((hS.alloc (.cells zPart TPart)).alloc (.cells #[.int .i64 d, .int .i64 1, .int .i64 (i : Int)] TPl)).perm (show _ = pts w.heap.size (.cells zPart TPart (0, 0)) * (pts (w.alloc (.cells zPart TPart)).heap.size (.cells #[.int .i64 d, .int .i64 1, .int .i64 (i : Int)] TPl (0, 0)) * (shelfAt SH p S * F)) from by ac_rfl)))
  rw [World.size_alloc] at H1
  clear hwf hw hN hS hi hd
  go_enter Try.func49, Try.ntmps49
  go_upto_region 2 with (first
    | ((with_reducible (refine wpList_alloc_zero ?_ TPart ?_ _ (zeroPart _) ?_)); rfl; rfl)
    | (go_at_call 31; refine (HC.out _ _ H1.out.2).mono ?_; rintro e w2 ⟨rfl, hb⟩; replace H1 := Lib.hid (And.intro (H1.out.1.below hb) (H1.out.2.below hb)); clear z0 z1 z2 z3 z4 z5 z6 f0 f1 f2 f3 f4 f5 f6 lz c0 c1 c2 lc; clear hb; obtain ⟨⟨z0, z1, z2, z3, z4, z5, z6⟩, ⟨f0, f1, f2, f3, f4, f5, f6⟩, lz⟩ := zPart_cells H1.out.2; obtain ⟨c0, c1, c2, lc⟩ := pl_cells3 H1.out.2.right)
    | (go_at_call 30; refine (HW.out _).mono ?_; rintro e w3 ⟨rfl, hb⟩; replace H1 := Lib.hid (And.intro (H1.out.1.below hb) (H1.out.2.below hb)); clear z0 z1 z2 z3 z4 z5 z6 f0 f1 f2 f3 f4 f5 f6 lz c0 c1 c2 lc; clear hb; obtain ⟨⟨z0, z1, z2, z3, z4, z5, z6⟩, ⟨f0, f1, f2, f3, f4, f5, f6⟩, lz⟩ := zPart_cells H1.out.2; obtain ⟨c0, c1, c2, lc⟩ := pl_cells3 H1.out.2.right)
    | fail)
  generalize (w.alloc (.cells zPart TPart)).alloc (.cells #[.int .i64 d, .int .i64 1, .int .i64 (i : Int)] TPl) = w1 at H1 ⊢
  generalize w.heap.size = B at H1 HC ⊢
  obtain ⟨⟨z0, z1, z2, z3, z4, z5, z6⟩, ⟨f0, f1, f2, f3, f4, f5, f6⟩, lz⟩ := zPart_cells H1.out.2
  obtain ⟨c0, c1, c2, lc⟩ := pl_cells3 H1.out.2.right
  go_wp2_with (first
    | ((with_reducible (refine wpList_alloc_zero ?_ TPart ?_ _ (zeroPart _) ?_)); rfl; rfl)
    | (go_at_call 31; refine (HC.out _ _ H1.out.2).mono ?_; rintro e w2 ⟨rfl, hb⟩; replace H1 := Lib.hid (And.intro (H1.out.1.below hb) (H1.out.2.below hb)); clear z0 z1 z2 z3 z4 z5 z6 f0 f1 f2 f3 f4 f5 f6 lz c0 c1 c2 lc; clear hb; obtain ⟨⟨z0, z1, z2, z3, z4, z5, z6⟩, ⟨f0, f1, f2, f3, f4, f5, f6⟩, lz⟩ := zPart_cells H1.out.2; obtain ⟨c0, c1, c2, lc⟩ := pl_cells3 H1.out.2.right)
    | (go_at_call 30; refine (HW.out _).mono ?_; rintro e w3 ⟨rfl, hb⟩; replace H1 := Lib.hid (And.intro (H1.out.1.below hb) (H1.out.2.below hb)); clear z0 z1 z2 z3 z4 z5 z6 f0 f1 f2 f3 f4 f5 f6 lz c0 c1 c2 lc; clear hb; obtain ⟨⟨z0, z1, z2, z3, z4, z5, z6⟩, ⟨f0, f1, f2, f3, f4, f5, f6⟩, lz⟩ := zPart_cells H1.out.2; obtain ⟨c0, c1, c2, lc⟩ := pl_cells3 H1.out.2.right)
    | fail)
  replace H1 := Lib.hid (set7_sat H1.out.1 H1.out.2 (.int .i64 0) (.int .i64 0) (.int .i64 0) (.int .i64 0) (.int .i64 0) (.int .i64 0) (.string (strB [])))
  refine bodyPost_ret (v := .tuple #[.agg zPart, .bool false, .int .i64 0]) (results3 Try.results49 (ResIs.row rfl H1.out.2.block Try.underlying97 rfl (infoPart rfl)) (.tmp rfl) (.tmp rfl)) rfl ?_
  exact ⟨rfl, H1.out.1, H1.out.2.right.right⟩
set_option maxHeartbeats 1000000 in
set_option maxRecDepth 20000 in
theorem wread_none (p : Nat) (S : ShelfM) (F : HProp) (d : Int) (i : Nat) (N : Nat) (f : Nat → List UInt8) (hN : (N : Int) = logN S.cfg) (hd : 0 ≤ d ∧ d < 64) (hi : i < N) (s : List UInt8) (hr : S.read ⟨d, 1, (i : Int)⟩ = (s, 0)) (hl : s.length = 64) (hop : openM ⟨d, 1, (i : Int)⟩ s = none) (w : World) (hS : Sat w (shelfAt SH p S * F)) :
    Calls Try.prog 49 #[.pointer (some ⟨p, 0, none⟩), .int .i64 d, .int .i64 (i : Int)] w fun e w' => e = .returned (.tuple #[.agg zPart, .bool false, .int .i64 0]) ∧ Hid (Same w w' ∧ Sat w' (shelfAt SH p S * F)) := by
  have hwf := (shelfAt_wf hS).cfg.log
  have HC := Lib.hid (show ∀ W X, Sat W (X * (pts (w.heap.size + 1) (.cells #[.int .i64 d, .int .i64 1, .int .i64 (i : Int)] TPl (0, 0)) * (shelfAt SH p S * F))) → Calls Try.prog 31 #[.pointer (some ⟨p, 0, none⟩)] W fun e w' => e = .returned (.agg (cfgA S.cfg)) ∧ Below W.heap.size W w' from fun W X h => config_any p S F W h.right.right)
  have hw := fun W => wsectors_any S.cfg hwf.2 (by omega) W
  rw [← hN] at hw
  have HW := Lib.hid hw
  have hlt : decide (N ≤ i) = false := decide_eq_false (by omega)
  have H1 := Lib.hid (And.intro (((Same.refl w).alloc (.cells zPart TPart)).alloc (.cells #[.int .i64 d, .int .i64 1, .int .i64 (i : Int)] TPl)) (((hS.alloc (.cells zPart TPart)).alloc (.cells #[.int .i64 d, .int .i64 1, .int .i64 (i : Int)] TPl)).perm (show _ = pts w.heap.size (.cells zPart TPart (0, 0)) * (pts (w.alloc (.cells zPart TPart)).heap.size (.cells #[.int .i64 d, .int .i64 1, .int .i64 (i : Int)] TPl (0, 0)) * (shelfAt SH p S * F)) from by ac_rfl)))
  rw [World.size_alloc] at H1
  have ha : placeOK ⟨d, 1, (i : Int)⟩ = true := placeOK_iff.2 ⟨hd.1, hd.2, by simp, by simp, by simp only; omega, by simp only; unfold logN at hN; omega⟩
  have HR := Lib.hid (show ∀ W X, Sat W (X * (pts (w.heap.size + 1) (.cells #[.int .i64 d, .int .i64 1, .int .i64 (i : Int)] TPl (0, 0)) * (shelfAt SH p S * F))) → Calls Try.prog 47 #[.pointer (some ⟨p, 0, none⟩), .agg (plA ⟨d, 1, (i : Int)⟩)] W fun e w' => e = .returned (.tuple #[.string (strB s), .int .i64 0]) ∧ Hid (Same W w' ∧ Sat w' (X * (pts (w.heap.size + 1) (.cells #[.int .i64 d, .int .i64 1, .int .i64 (i : Int)] TPl (0, 0)) * (shelfAt SH p S * F)))) from fun W X h => (sread_any p S (X * (pts (w.heap.size + 1) (.cells #[.int .i64 d, .int .i64 1, .int .i64 (i : Int)] TPl (0, 0)) * F)) ⟨d, 1, (i : Int)⟩ W (h.perm (by ac_rfl))).mono fun e w' h' => by
    unfold ReadOut at h'
    rw [hr] at h'
    exact ⟨h'.1, h'.2.1, h'.2.2.perm (by ac_rfl)⟩)
  have HO := Lib.hid (show ∀ W X, Sat W X → Calls Try.prog 48 #[.agg (plA ⟨d, 1, (i : Int)⟩), .string (strB s)] W fun e w' => ∃ k : Int, (k != 0) = true ∧ e = .returned (.tuple #[.agg #[.int .i64 0, .int .i64 0], .string (strB []), .int .i64 k]) ∧ Hid (Same W w' ∧ Sat w' X) from fun W X h => (open_any ⟨d, 1, (i : Int)⟩ s ha hl X W h).mono fun e w' h' => by
    obtain ⟨k, hk, he, hs⟩ := h'
    rw [hop] at hk he
    exact ⟨k, by simp at hk; simp [hk], he, hs⟩)
  clear hwf hw hN hS hi hd hr hl hop ha
  go_enter Try.func49, Try.ntmps49
  go_upto_region 2 with (first
    | ((with_reducible (refine wpList_alloc_zero ?_ TPart ?_ _ (zeroPart _) ?_)); rfl; rfl)
    | (go_at_call 31; refine (HC.out _ _ H1.out.2).mono ?_; rintro e w2 ⟨rfl, hb⟩; replace H1 := Lib.hid (And.intro (H1.out.1.below hb) (H1.out.2.below hb)); clear z0 z1 z2 z3 z4 z5 z6 f0 f1 f2 f3 f4 f5 f6 lz c0 c1 c2 lc; clear hb; obtain ⟨⟨z0, z1, z2, z3, z4, z5, z6⟩, ⟨f0, f1, f2, f3, f4, f5, f6⟩, lz⟩ := zPart_cells H1.out.2; obtain ⟨c0, c1, c2, lc⟩ := pl_cells3 H1.out.2.right)
    | (go_at_call 30; refine (HW.out _).mono ?_; rintro e w3 ⟨rfl, hb⟩; replace H1 := Lib.hid (And.intro (H1.out.1.below hb) (H1.out.2.below hb)); clear z0 z1 z2 z3 z4 z5 z6 f0 f1 f2 f3 f4 f5 f6 lz c0 c1 c2 lc; clear hb; obtain ⟨⟨z0, z1, z2, z3, z4, z5, z6⟩, ⟨f0, f1, f2, f3, f4, f5, f6⟩, lz⟩ := zPart_cells H1.out.2; obtain ⟨c0, c1, c2, lc⟩ := pl_cells3 H1.out.2.right)
    | fail)
  generalize (w.alloc (.cells zPart TPart)).alloc (.cells #[.int .i64 d, .int .i64 1, .int .i64 (i : Int)] TPl) = w1 at H1 ⊢
  generalize w.heap.size = B at H1 HC HR ⊢
  obtain ⟨⟨z0, z1, z2, z3, z4, z5, z6⟩, ⟨f0, f1, f2, f3, f4, f5, f6⟩, lz⟩ := zPart_cells H1.out.2
  obtain ⟨c0, c1, c2, lc⟩ := pl_cells3 H1.out.2.right
  go_wp2_with (first
    | ((with_reducible (refine wpList_alloc_zero ?_ TPart ?_ _ (zeroPart _) ?_)); rfl; rfl)
    | (go_at_call 31; refine (HC.out _ _ H1.out.2).mono ?_; rintro e w2 ⟨rfl, hb⟩; replace H1 := Lib.hid (And.intro (H1.out.1.below hb) (H1.out.2.below hb)); clear z0 z1 z2 z3 z4 z5 z6 f0 f1 f2 f3 f4 f5 f6 lz c0 c1 c2 lc; clear hb; obtain ⟨⟨z0, z1, z2, z3, z4, z5, z6⟩, ⟨f0, f1, f2, f3, f4, f5, f6⟩, lz⟩ := zPart_cells H1.out.2; obtain ⟨c0, c1, c2, lc⟩ := pl_cells3 H1.out.2.right)
    | (go_at_call 30; refine (HW.out _).mono ?_; rintro e w3 ⟨rfl, hb⟩; replace H1 := Lib.hid (And.intro (H1.out.1.below hb) (H1.out.2.below hb)); clear z0 z1 z2 z3 z4 z5 z6 f0 f1 f2 f3 f4 f5 f6 lz c0 c1 c2 lc; clear hb; obtain ⟨⟨z0, z1, z2, z3, z4, z5, z6⟩, ⟨f0, f1, f2, f3, f4, f5, f6⟩, lz⟩ := zPart_cells H1.out.2; obtain ⟨c0, c1, c2, lc⟩ := pl_cells3 H1.out.2.right)
    | (go_at_call 47; refine (HR.out _ _ H1.out.2).mono ?_; rintro e w4 ⟨rfl, h4⟩; replace H1 := Lib.hid (And.intro (H1.out.1.trans h4.out.1) h4.out.2); clear z0 z1 z2 z3 z4 z5 z6 f0 f1 f2 f3 f4 f5 f6 lz c0 c1 c2 lc; clear h4; obtain ⟨⟨z0, z1, z2, z3, z4, z5, z6⟩, ⟨f0, f1, f2, f3, f4, f5, f6⟩, lz⟩ := zPart_cells H1.out.2; obtain ⟨c0, c1, c2, lc⟩ := pl_cells3 H1.out.2.right)
    | (go_at_call 48; refine (HO.out _ _ H1.out.2).mono ?_; rintro e w5 ⟨k, hk, rfl, h5⟩; replace H1 := Lib.hid (And.intro (H1.out.1.trans h5.out.1) h5.out.2); clear z0 z1 z2 z3 z4 z5 z6 f0 f1 f2 f3 f4 f5 f6 lz c0 c1 c2 lc; clear h5; obtain ⟨⟨z0, z1, z2, z3, z4, z5, z6⟩, ⟨f0, f1, f2, f3, f4, f5, f6⟩, lz⟩ := zPart_cells H1.out.2; obtain ⟨c0, c1, c2, lc⟩ := pl_cells3 H1.out.2.right; skip)
    | fail)
  replace H1 := Lib.hid (set7_sat H1.out.1 H1.out.2 (.int .i64 0) (.int .i64 0) (.int .i64 0) (.int .i64 0) (.int .i64 0) (.int .i64 0) (.string (strB [])))
  replace H1 := Lib.hid (And.intro (H1.out.1.alloc (.cells #[.int .i64 0, .int .i64 0] TGen)) (H1.out.2.allocKeep (.cells #[.int .i64 0, .int .i64 0] TGen)))
  refine bodyPost_ret (v := .tuple #[.agg zPart, .bool false, .int .i64 0]) (results3 Try.results49 (ResIs.row rfl H1.out.2.block Try.underlying97 rfl (infoPart rfl)) (.tmp rfl) (.tmp rfl)) rfl ?_
  exact ⟨rfl, H1.out.1, H1.out.2.right.right⟩
theorem gen_cells2 {w : World} {D : Nat} {x y : Int} {X : HProp} (h : Sat w (pts D (.cells #[.int .i64 x, .int .i64 y] TGen (0, 0)) * X)) : w.cell? ⟨D, 0, none⟩ = some (.int .i64 x) ∧ w.cell? ⟨D, 1, none⟩ = some (.int .i64 y) := by
  have h1 := cells_at h.block
  exact ⟨h1 0, h1 1⟩
theorem part_set2 {w : World} {E : Nat} {a b c d e f g u v : Value} {X : HProp} (h : Sat w (pts E (.cells #[a, b, c, d, e, f, g] TPart (0, 0)) * X)) : Sat (w.setCells E 2 [u, v]) (pts E (.cells #[a, b, u, v, e, f, g] TPart (0, 0)) * X) := h.setCells [u, v] (o := 2)
theorem part_cells {w : World} {E : Nat} {a b c d e f g : Value} {X : HProp} (h : Sat w (pts E (.cells #[a, b, c, d, e, f, g] TPart (0, 0)) * X)) :
    w.cell? ⟨E, 0, none⟩ = some a ∧ w.cell? ⟨E, 1, none⟩ = some b ∧ w.cell? ⟨E, 2, none⟩ = some c ∧ w.cell? ⟨E, 3, none⟩ = some d ∧ w.cell? ⟨E, 4, none⟩ = some e ∧ w.cell? ⟨E, 5, none⟩ = some f ∧ w.cell? ⟨E, 6, none⟩ = some g ∧ w.frozen? ⟨E, 6, none⟩ = false ∧ E < w.heap.size := by
  have h1 := cells_at h.block
  exact ⟨h1 0, h1 1, h1 2, h1 3, h1 4, h1 5, h1 6, thawed_at h.block 6, h.lt⟩
theorem part_there {w : World} {E : Nat} {a b c d e f g : Value} {X : HProp} (h : Sat w (pts E (.cells #[a, b, c, d, e, f, g] TPart (0, 0)) * X)) : w.there E 2 2 := by
  intro j hj
  refine ⟨?_, thawed_at h.block _⟩
  rw [cells_at h.block]
  rcases (show j = 0 ∨ j = 1 by omega) with rfl | rfl <;> simp
set_option maxHeartbeats 1000000 in
set_option maxRecDepth 20000 in
theorem wread_some (p : Nat) (S : ShelfM) (F : HProp) (d : Int) (i : Nat) (N : Nat) (f : Nat → List UInt8) (hN : (N : Int) = logN S.cfg) (hd : 0 ≤ d ∧ d < 64) (hi : i < N) (s : List UInt8) (hr : S.read ⟨d, 1, (i : Int)⟩ = (s, 0)) (hl : s.length = 64) (g h : Int) (q : List UInt8) (hq : q.length = 40) (hop : openM ⟨d, 1, (i : Int)⟩ s = some (⟨g, h⟩, q)) (w : World) (hS : Sat w (shelfAt SH p S * F)) :
    Calls Try.prog 49 #[.pointer (some ⟨p, 0, none⟩), .int .i64 d, .int .i64 (i : Int)] w fun e w' => e = .returned (.tuple #[.agg (partA (partM (⟨g, h⟩, q))), .bool true, .int .i64 0]) ∧ Hid (Same w w' ∧ Sat w' (shelfAt SH p S * F)) := by
  have hwf := (shelfAt_wf hS).cfg.log
  have HC := Lib.hid (show ∀ W X, Sat W (X * (pts (w.heap.size + 1) (.cells #[.int .i64 d, .int .i64 1, .int .i64 (i : Int)] TPl (0, 0)) * (shelfAt SH p S * F))) → Calls Try.prog 31 #[.pointer (some ⟨p, 0, none⟩)] W fun e w' => e = .returned (.agg (cfgA S.cfg)) ∧ Below W.heap.size W w' from fun W X h => config_any p S F W h.right.right)
  have hw := fun W => wsectors_any S.cfg hwf.2 (by omega) W
  rw [← hN] at hw
  have HW := Lib.hid hw
  have hlt : decide (N ≤ i) = false := decide_eq_false (by omega)
  have H1 := Lib.hid (And.intro (((Same.refl w).alloc (.cells zPart TPart)).alloc (.cells #[.int .i64 d, .int .i64 1, .int .i64 (i : Int)] TPl)) (((hS.alloc (.cells zPart TPart)).alloc (.cells #[.int .i64 d, .int .i64 1, .int .i64 (i : Int)] TPl)).perm (show _ = pts w.heap.size (.cells zPart TPart (0, 0)) * (pts (w.alloc (.cells zPart TPart)).heap.size (.cells #[.int .i64 d, .int .i64 1, .int .i64 (i : Int)] TPl (0, 0)) * (shelfAt SH p S * F)) from by ac_rfl)))
  rw [World.size_alloc] at H1
  have ha : placeOK ⟨d, 1, (i : Int)⟩ = true := placeOK_iff.2 ⟨hd.1, hd.2, by simp, by simp, by simp only; omega, by simp only; unfold logN at hN; omega⟩
  have HR := Lib.hid (show ∀ W X, Sat W (X * (pts (w.heap.size + 1) (.cells #[.int .i64 d, .int .i64 1, .int .i64 (i : Int)] TPl (0, 0)) * (shelfAt SH p S * F))) → Calls Try.prog 47 #[.pointer (some ⟨p, 0, none⟩), .agg (plA ⟨d, 1, (i : Int)⟩)] W fun e w' => e = .returned (.tuple #[.string (strB s), .int .i64 0]) ∧ Hid (Same W w' ∧ Sat w' (X * (pts (w.heap.size + 1) (.cells #[.int .i64 d, .int .i64 1, .int .i64 (i : Int)] TPl (0, 0)) * (shelfAt SH p S * F)))) from fun W X h => (sread_any p S (X * (pts (w.heap.size + 1) (.cells #[.int .i64 d, .int .i64 1, .int .i64 (i : Int)] TPl (0, 0)) * F)) ⟨d, 1, (i : Int)⟩ W (h.perm (by ac_rfl))).mono fun e w' h' => by
    unfold ReadOut at h'
    rw [hr] at h'
    exact ⟨h'.1, h'.2.1, h'.2.2.perm (by ac_rfl)⟩)
  have HO := Lib.hid (show ∀ W X, Sat W X → Calls Try.prog 48 #[.agg (plA ⟨d, 1, (i : Int)⟩), .string (strB s)] W fun e w' => ∃ k : Int, (k != 0) = false ∧ e = .returned (.tuple #[.agg (genA ⟨g, h⟩), .string (strB q), .int .i64 k]) ∧ Hid (Same W w' ∧ Sat w' X) from fun W X h => (open_any ⟨d, 1, (i : Int)⟩ s ha hl X W h).mono fun e w' h' => by
    obtain ⟨k, hk, he, hs⟩ := h'
    rw [hop] at hk he
    exact ⟨k, by simp at hk; simp [hk], he, hs⟩)
  obtain ⟨n, hn⟩ : ∃ n, getM (subL q 0 4) = n := ⟨_, rfl⟩
  obtain ⟨lf, hlf⟩ : ∃ n, getM (subL q 4 6) = n := ⟨_, rfl⟩
  obtain ⟨e1, he1⟩ : ∃ n, getM (subL q 6 10) = n := ⟨_, rfl⟩
  obtain ⟨e2, he2⟩ : ∃ n, getM (subL q 10 14) = n := ⟨_, rfl⟩
  have hlf2 : lf < 65536 := by have := getM_lt (subL q 4 6); rw [hlf] at this; refine Nat.lt_of_lt_of_le this ?_; exact Nat.pow_le_pow_right (by decide) (show (subL q 4 6).length ≤ 2 by simp [subL]; omega)
  have HP := Lib.hid (show partM (⟨g, h⟩, q) = ⟨⟨g, h⟩, ⟨(e1 : Int), (e2 : Int)⟩, (n : Int), (lf : Int), subL q 14 (14 + min 26 lf)⟩ by unfold partM; simp only [hn, hlf, he1, he2])
  rw [show subL q 0 4 = q.take 4 by simp [subL]] at hn
  have HG := Lib.hid (And.intro (And.intro hn hlf) (And.intro he1 he2))
  have HQ := Lib.hid hq
  rw [HP.out]
  clear hn hlf he1 he2 hq HP
  clear hwf hw hN hS hi hd hr hl hop ha
  go_enter Try.func49, Try.ntmps49
  go_upto_region 2 with (first
    | ((with_reducible (refine wpList_alloc_zero ?_ TPart ?_ _ (zeroPart _) ?_)); rfl; rfl)
    | (go_at_call 31; refine (HC.out _ _ H1.out.2).mono ?_; rintro e w2 ⟨rfl, hb⟩; replace H1 := Lib.hid (And.intro (H1.out.1.below hb) (H1.out.2.below hb)); clear z0 z1 z2 z3 z4 z5 z6 f0 f1 f2 f3 f4 f5 f6 lz c0 c1 c2 lc; clear hb; obtain ⟨⟨z0, z1, z2, z3, z4, z5, z6⟩, ⟨f0, f1, f2, f3, f4, f5, f6⟩, lz⟩ := zPart_cells H1.out.2; obtain ⟨c0, c1, c2, lc⟩ := pl_cells3 H1.out.2.right)
    | (go_at_call 30; refine (HW.out _).mono ?_; rintro e w3 ⟨rfl, hb⟩; replace H1 := Lib.hid (And.intro (H1.out.1.below hb) (H1.out.2.below hb)); clear z0 z1 z2 z3 z4 z5 z6 f0 f1 f2 f3 f4 f5 f6 lz c0 c1 c2 lc; clear hb; obtain ⟨⟨z0, z1, z2, z3, z4, z5, z6⟩, ⟨f0, f1, f2, f3, f4, f5, f6⟩, lz⟩ := zPart_cells H1.out.2; obtain ⟨c0, c1, c2, lc⟩ := pl_cells3 H1.out.2.right)
    | fail)
  generalize (w.alloc (.cells zPart TPart)).alloc (.cells #[.int .i64 d, .int .i64 1, .int .i64 (i : Int)] TPl) = w1 at H1 ⊢
  generalize w.heap.size = B at H1 HC HR ⊢
  obtain ⟨⟨z0, z1, z2, z3, z4, z5, z6⟩, ⟨f0, f1, f2, f3, f4, f5, f6⟩, lz⟩ := zPart_cells H1.out.2
  obtain ⟨c0, c1, c2, lc⟩ := pl_cells3 H1.out.2.right
  go_upto_region 10 with (first
    | ((with_reducible (refine wpList_alloc_zero ?_ TPart ?_ _ (zeroPart _) ?_)); rfl; rfl)
    | (go_at_call 31; refine (HC.out _ _ H1.out.2).mono ?_; rintro e w2 ⟨rfl, hb⟩; replace H1 := Lib.hid (And.intro (H1.out.1.below hb) (H1.out.2.below hb)); clear z0 z1 z2 z3 z4 z5 z6 f0 f1 f2 f3 f4 f5 f6 lz c0 c1 c2 lc; clear hb; obtain ⟨⟨z0, z1, z2, z3, z4, z5, z6⟩, ⟨f0, f1, f2, f3, f4, f5, f6⟩, lz⟩ := zPart_cells H1.out.2; obtain ⟨c0, c1, c2, lc⟩ := pl_cells3 H1.out.2.right)
    | (go_at_call 30; refine (HW.out _).mono ?_; rintro e w3 ⟨rfl, hb⟩; replace H1 := Lib.hid (And.intro (H1.out.1.below hb) (H1.out.2.below hb)); clear z0 z1 z2 z3 z4 z5 z6 f0 f1 f2 f3 f4 f5 f6 lz c0 c1 c2 lc; clear hb; obtain ⟨⟨z0, z1, z2, z3, z4, z5, z6⟩, ⟨f0, f1, f2, f3, f4, f5, f6⟩, lz⟩ := zPart_cells H1.out.2; obtain ⟨c0, c1, c2, lc⟩ := pl_cells3 H1.out.2.right)
    | (go_at_call 47; refine (HR.out _ _ H1.out.2).mono ?_; rintro e w4 ⟨rfl, h4⟩; replace H1 := Lib.hid (And.intro (H1.out.1.trans h4.out.1) h4.out.2); clear z0 z1 z2 z3 z4 z5 z6 f0 f1 f2 f3 f4 f5 f6 lz c0 c1 c2 lc; clear h4; obtain ⟨⟨z0, z1, z2, z3, z4, z5, z6⟩, ⟨f0, f1, f2, f3, f4, f5, f6⟩, lz⟩ := zPart_cells H1.out.2; obtain ⟨c0, c1, c2, lc⟩ := pl_cells3 H1.out.2.right)
    | (go_at_call 48; refine (HO.out _ _ H1.out.2).mono ?_; rintro e w5 ⟨k, hk, rfl, h5⟩; replace H1 := Lib.hid (And.intro (H1.out.1.trans h5.out.1) h5.out.2); clear z0 z1 z2 z3 z4 z5 z6 f0 f1 f2 f3 f4 f5 f6 lz c0 c1 c2 lc; clear h5; obtain ⟨⟨z0, z1, z2, z3, z4, z5, z6⟩, ⟨f0, f1, f2, f3, f4, f5, f6⟩, lz⟩ := zPart_cells H1.out.2; obtain ⟨c0, c1, c2, lc⟩ := pl_cells3 H1.out.2.right; skip)
    | fail)
  replace H1 := Lib.hid (And.intro (H1.out.1.alloc (.cells #[.int .i64 g, .int .i64 h] TGen)) (H1.out.2.alloc (.cells #[.int .i64 g, .int .i64 h] TGen)))
  clear z0 z1 z2 z3 z4 z5 z6 f0 f1 f2 f3 f4 f5 f6 lz c0 c1 c2 lc
  generalize w5.alloc (.cells #[.int .i64 g, .int .i64 h] TGen) = w6 at H1 ⊢
  generalize w5.heap.size = D at H1 ⊢
  replace H1 := Lib.hid (And.intro H1.out.1.drew H1.out.2.drew)
  have hS0 := gen_cells2 H1.out.2
  have hS1 := gen_cells2 (H1.out.2.alloc (.cells zPart TPart)).right
  refine reg_begin (fun w' => w'.cell? ⟨D, 0, none⟩ = some (.int .i64 g) ∧ w'.cell? ⟨D, 1, none⟩ = some (.int .i64 h)) (by kernel_rfl) ?_
  (apply reg_take 0 rfl rfl (by decide +kernel) rfl); (rintro w' ⟨h1, h2⟩; go_simp; rfl); exact hS0; simp only [List.setIfInBounds_toArray, List.set_cons_succ, List.set_cons_zero]
  (apply reg_take 1 rfl rfl (by decide +kernel) rfl); (rintro w' ⟨h1, h2⟩; go_simp; rfl); exact hS0; simp only [List.setIfInBounds_toArray, List.set_cons_succ, List.set_cons_zero]
  refine reg_take 2 (v := .string (strB (q.take 4))) rfl rfl (by decide +kernel) rfl (fun w' _ => exec_str_to (j := 4) rfl Try.underlying9 rfl rfl (by rw [HQ.out]; decide)) hS0 ?_; simp only [List.setIfInBounds_toArray, List.set_cons_succ, List.set_cons_zero]
  refine reg_takeq 3 (f := 71) (args := #[.string (strB (q.take 4))]) (v := .int .i64 (n : Int)) rfl rfl (by decide +kernel) rfl (fun w' => by kernel_rfl) (fun w' _ => by rw [← HG.out.1.1]; exact wget_any _ (by simp [subL]; omega) w') hS0 ?_
  simp only [List.setIfInBounds_toArray, List.set_cons_succ, List.set_cons_zero]
  (apply reg_take 4 rfl rfl (by decide +kernel) rfl); (rintro w' ⟨h1, h2⟩; go_simp; rfl); exact hS0; simp only [List.setIfInBounds_toArray, List.set_cons_succ, List.set_cons_zero]
  refine reg_take 5 (v := .string (strB (subL q 4 6))) rfl rfl (by decide +kernel) rfl (fun w' _ => exec_str_slice (i := 4) (j := 6) rfl Try.underlying9 rfl rfl rfl (by decide) (by rw [HQ.out]; decide)) hS0 ?_; simp only [List.setIfInBounds_toArray, List.set_cons_succ, List.set_cons_zero]
  refine reg_takeq 6 (f := 71) (args := #[.string (strB (subL q 4 6))]) (v := .int .i64 (lf : Int)) rfl rfl (by decide +kernel) rfl (fun w' => by kernel_rfl) (fun w' _ => by rw [← HG.out.1.2]; exact wget_any _ (by simp [subL]; omega) w') hS0 ?_
  simp only [List.setIfInBounds_toArray, List.set_cons_succ, List.set_cons_zero]
  (apply reg_take 7 rfl rfl (by decide +kernel) rfl); (rintro w' ⟨h1, h2⟩; go_simp; rfl); exact hS0; simp only [List.setIfInBounds_toArray, List.set_cons_succ, List.set_cons_zero]
  refine reg_run 8 (.pointer (some ⟨w6.heap.size, 0, none⟩)) (w6.drew.alloc (.cells zPart TPart)) rfl rfl (by decide +kernel) rfl (exec_alloc_zero rfl _ (zeroPart _)) (hS1) ?_; simp only [List.setIfInBounds_toArray, List.set_cons_succ, List.set_cons_zero]
  refine reg_do_last 9 (w6.drew.alloc (.cells #[.int .i64 g, .int .i64 h, .int .i64 0, .int .i64 0, .int .i64 (n : Int), .int .i64 (lf : Int), .string (strB [])] TPart)) rfl rfl (by decide +kernel) rfl (exec_store_fresh rfl TPart _ _ rfl rfl (infoPart rfl) rfl (by simp [Value.oneCell'])) ?_
  replace H1 := Lib.hid (And.intro (H1.out.1.alloc (.cells #[.int .i64 g, .int .i64 h, .int .i64 0, .int .i64 0, .int .i64 (n : Int), .int .i64 (lf : Int), .string (strB [])] TPart)) (H1.out.2.alloc (.cells #[.int .i64 g, .int .i64 h, .int .i64 0, .int .i64 0, .int .i64 (n : Int), .int .i64 (lf : Int), .string (strB [])] TPart)))
  rw [show w6.drew.heap.size = w6.heap.size from rfl] at H1
  generalize w6.drew.alloc (.cells #[.int .i64 g, .int .i64 h, .int .i64 0, .int .i64 0, .int .i64 (n : Int), .int .i64 (lf : Int), .string (strB [])] TPart) = w7 at H1 ⊢
  generalize w6.heap.size = E at H1 ⊢
  clear hS0 hS1
  go_upto_region 11 with (fail)
  replace H1 := Lib.hid (And.intro H1.out.1.drew H1.out.2.drew)
  refine reg_begin (fun _ => True) (by kernel_rfl) ?_
  have hS0 := trivial
  (apply reg_take 0 rfl rfl (by decide +kernel) rfl); (intro w' _; go_simp; rfl); exact trivial; simp only [List.setIfInBounds_toArray, List.set_cons_succ, List.set_cons_zero]
  refine reg_take 1 (v := .string (strB (subL q 6 10))) rfl rfl (by decide +kernel) rfl (fun w' _ => exec_str_slice (i := 6) (j := 10) rfl Try.underlying9 rfl rfl rfl (by decide) (by rw [HQ.out]; decide)) trivial ?_; simp only [List.setIfInBounds_toArray, List.set_cons_succ, List.set_cons_zero]
  refine reg_takeq 2 (f := 71) (args := #[.string (strB (subL q 6 10))]) (v := .int .i64 (e1 : Int)) rfl rfl (by decide +kernel) rfl (fun w' => by kernel_rfl) (fun w' _ => by rw [← HG.out.2.1]; exact wget_any _ (by simp [subL]; omega) w') hS0 ?_
  simp only [List.setIfInBounds_toArray, List.set_cons_succ, List.set_cons_zero]
  (apply reg_take 3 rfl rfl (by decide +kernel) rfl); (intro w' _; go_simp; rfl); exact trivial; simp only [List.setIfInBounds_toArray, List.set_cons_succ, List.set_cons_zero]
  refine reg_take 4 (v := .string (strB (subL q 10 14))) rfl rfl (by decide +kernel) rfl (fun w' _ => exec_str_slice (i := 10) (j := 14) rfl Try.underlying9 rfl rfl rfl (by decide) (by rw [HQ.out]; decide)) trivial ?_; simp only [List.setIfInBounds_toArray, List.set_cons_succ, List.set_cons_zero]
  refine reg_takeq 5 (f := 71) (args := #[.string (strB (subL q 10 14))]) (v := .int .i64 (e2 : Int)) rfl rfl (by decide +kernel) rfl (fun w' => by kernel_rfl) (fun w' _ => by rw [← HG.out.2.2]; exact wget_any _ (by simp [subL]; omega) w') hS0 ?_
  simp only [List.setIfInBounds_toArray, List.set_cons_succ, List.set_cons_zero]
  (apply reg_take 6 rfl rfl (by decide +kernel) rfl); (intro w' _; go_simp; rfl); exact trivial; simp only [List.setIfInBounds_toArray, List.set_cons_succ, List.set_cons_zero]
  (apply reg_take 7 rfl rfl (by decide +kernel) rfl); (intro w' _; go_simp; rfl); exact trivial; simp only [List.setIfInBounds_toArray, List.set_cons_succ, List.set_cons_zero]
  refine reg_do_last 8 (w7.drew.setCells E 2 [.int .i64 (e1 : Int), .int .i64 (e2 : Int)]) rfl rfl (by decide +kernel) rfl (exec_store_row (new := #[.int .i64 (e1 : Int), .int .i64 (e2 : Int)]) rfl rfl rfl (infoGen rfl) (part_there H1.out.2) (by simp [Value.oneCell'])) ?_
  replace H1 := Lib.hid (And.intro (Same.setCells [.int .i64 (e1 : Int), .int .i64 (e2 : Int)] H1.out.1 (b := E) (o := 2)) (part_set2 (u := .int .i64 (e1 : Int)) (v := .int .i64 (e2 : Int)) H1.out.2))
  generalize w7.drew.setCells E 2 [.int .i64 (e1 : Int), .int .i64 (e2 : Int)] = w8 at H1 ⊢
  obtain ⟨a0, a1, a2, a3, a4, a5, a6, fa, la⟩ := part_cells H1.out.2
  obtain ⟨m, hm⟩ : ∃ m, 14 + min 26 lf = m := ⟨_, rfl⟩
  have hmi : (14 : Int) + min 26 (lf : Int) = (m : Int) := by omega
  have hm1 : 14 ≤ m := by omega
  have hm2 : m ≤ 40 := by omega
  have hsz : (strB q).size = 40 := by rw [strB_size, HQ.out]
  have hx : (strB q).extract 14 m = strB (subL q 14 m) := strB_sub q 14 m
  have HX := Lib.hid hm
  clear hm hlf2
  go_upto_region 13 with (fail)
  clear a0 a1 a2 a3 a4 a5 a6 fa la
  replace H1 := Lib.hid (And.intro (H1.out.1.setCell ⟨E, 6, none⟩ (.string (strB (subL q 14 m)))) (H1.out.2.setCell (i := 6) (.string (strB (subL q 14 m)))))
  generalize w8.setCell ⟨E, 6, none⟩ (.string (strB (subL q 14 m))) = w9 at H1 ⊢
  obtain ⟨a0, a1, a2, a3, a4, a5, a6, fa, la⟩ := part_cells (g := .string (strB (subL q 14 m))) H1.out.2
  replace H1 := Lib.hid (And.intro H1.out.1 (H1.out.2.right.right.perm (show _ = pts B (.cells zPart TPart (0, 0)) * (pts (B + 1) (.cells #[.int .i64 d, .int .i64 1, .int .i64 (i : Int)] TPl (0, 0)) * (shelfAt SH p S * F)) from rfl)))
  obtain ⟨⟨z0, z1, z2, z3, z4, z5, z6⟩, ⟨f0, f1, f2, f3, f4, f5, f6⟩, lz⟩ := zPart_cells H1.out.2
  go_wp2
  replace H1 := Lib.hid (set7_sat H1.out.1 H1.out.2 (.int .i64 g) (.int .i64 h) (.int .i64 (e1 : Int)) (.int .i64 (e2 : Int)) (.int .i64 (n : Int)) (.int .i64 (lf : Int)) (.string (strB (subL q 14 m))))
  refine bodyPost_ret (v := .tuple #[.agg #[.int .i64 g, .int .i64 h, .int .i64 (e1 : Int), .int .i64 (e2 : Int), .int .i64 (n : Int), .int .i64 (lf : Int), .string (strB (subL q 14 m))], .bool true, .int .i64 0]) (results3 Try.results49 (ResIs.row rfl H1.out.2.block Try.underlying97 rfl (infoPart rfl)) (.tmp rfl) (.tmp rfl)) rfl ?_
  exact ⟨by rw [← HX.out], H1.out.1, H1.out.2.right.right⟩
/-- A sector of the log is read. -/
theorem wread_any (p : Nat) (S : ShelfM) (F : HProp) (d : Int) (i : Nat) (N : Nat) (f : Nat → List UInt8) (hN : (N : Int) = logN S.cfg) (hd : 0 ≤ d ∧ d < 64) (hr : ReadsL S d N f) (hl : ∀ j, j < N → (f j).length = 64) (w : World) (hS : Sat w (shelfAt SH p S * F)) :
    Calls Try.prog 49 #[.pointer (some ⟨p, 0, none⟩), .int .i64 d, .int .i64 (i : Int)] w fun e w' => e = .returned (.tuple #[.agg (partO (readL f N d i)), .bool (readL f N d i).isSome, .int .i64 0]) ∧ Hid (Same w w' ∧ Sat w' (shelfAt SH p S * F)) := by
  by_cases hi : N ≤ i
  · rw [show readL f N d i = none by unfold readL; rw [if_pos hi]]
    exact wread_out p S F d i N f hN hd hi w hS
  · have hrd : readL f N d i = (openM ⟨d, 1, (i : Int)⟩ (f i)).map partM := by unfold readL; rw [if_neg hi]
    rw [hrd]
    cases hop : openM ⟨d, 1, (i : Int)⟩ (f i) with
    | none => exact wread_none p S F d i N f hN hd (by omega) (f i) (hr i (by omega)) (hl i (by omega)) hop w hS
    | some r =>
      obtain ⟨⟨g, h⟩, q⟩ := r
      have hq : q.length = 40 := by
        unfold openM at hop
        split at hop
        · cases hop; simp [subL, hl i (by omega)]
        · cases hop
      exact wread_some p S F d i N f hN hd (by omega) (f i) (hr i (by omega)) (hl i (by omega)) g h q hq hop w hS
end Go.Proofs.Ytbegomjbakidmaa
