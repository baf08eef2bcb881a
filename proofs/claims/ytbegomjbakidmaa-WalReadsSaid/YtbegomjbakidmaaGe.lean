/- sector.Open. -/
import Derived.Test.YtbegomjbakidmaaGd
namespace Go.Proofs.Ytbegomjbakidmaa
open Go.RowKit Go.Sl Go.ChangeMaps

theorem open_cells {w : World} {C D B E : Nat} {p q r g h x y z : Int} {X : HProp} (hs : Sat w (pts C (.cells #[.int .i64 p, .int .i64 q, .int .i64 r] TPl (0, 0)) * (pts D (.cells #[.int .i64 g, .int .i64 h] TGen (0, 0)) * (pts B (.cells #[.int .i64 x, .int .i64 y, .int .i64 z] TPl (0, 0)) * (pts E (.cells zGen TGen (0, 0)) * X))))) :
    (w.cell? ⟨B, 0, none⟩ = some (.int .i64 x) ∧ w.cell? ⟨B, 1, none⟩ = some (.int .i64 y) ∧ w.cell? ⟨B, 2, none⟩ = some (.int .i64 z)) ∧ (w.cell? ⟨E, 0, none⟩ = some (.int .i64 0) ∧ w.cell? ⟨E, 1, none⟩ = some (.int .i64 0)) ∧
    w.cell? ⟨C, 0, none⟩ = some (.int .i64 p) ∧ w.cell? ⟨C, 1, none⟩ = some (.int .i64 q) ∧ w.cell? ⟨C, 2, none⟩ = some (.int .i64 r) ∧ w.cell? ⟨D, 0, none⟩ = some (.int .i64 g) ∧ w.cell? ⟨D, 1, none⟩ = some (.int .i64 h) ∧ w.frozen? ⟨E, 0, none⟩ = false ∧ w.frozen? ⟨E, 1, none⟩ = false := by
  have h1 := cells_at hs.block
  have h2 := cells_at hs.right.block
  have h3 := cells_at hs.right.right.block
  have h4 := cells_at hs.right.right.right.block
  have f4 := thawed_at hs.right.right.right.block
  exact ⟨⟨h3 0, h3 1, h3 2⟩, ⟨h4 0, h4 1⟩, h1 0, h1 1, h1 2, h2 0, h2 1, f4 0, f4 1⟩
theorem open_store {w w0 : World} {E : Nat} {g h : Int} {X Y Z W : HProp} (hm : Same w0 w) (hs : Sat w (X * (Y * (Z * (pts E (.cells zGen TGen (0, 0)) * W))))) :
    Same w0 ((w.setCell ⟨E, 0, none⟩ (.int .i64 g)).setCell ⟨E, 1, none⟩ (.int .i64 h)) ∧ Sat ((w.setCell ⟨E, 0, none⟩ (.int .i64 g)).setCell ⟨E, 1, none⟩ (.int .i64 h)) (pts E (.cells #[.int .i64 g, .int .i64 h] TGen (0, 0)) * W) := by
  have h1 := hs.right.right.right
  exact ⟨(hm.setCell _ _).setCell _ _, (h1.setCell (i := 0) (.int .i64 g)).setCell (i := 1) (.int .i64 h)⟩

theorem open_cells2 {w : World} {D : Nat} {g h : Int} {X Y : HProp} (hs : Sat w (X * (pts D (.cells #[.int .i64 g, .int .i64 h] TGen (0, 0)) * Y))) : w.cell? ⟨D, 0, none⟩ = some (.int .i64 g) ∧ w.cell? ⟨D, 1, none⟩ = some (.int .i64 h) := by
  have h1 := cells_at hs.right.block
  exact ⟨h1 0, h1 1⟩
theorem open_cells3 {w : World} {D : Nat} {g h : Int} {X Y Z : HProp} (hs : Sat w (X * (Z * (pts D (.cells #[.int .i64 g, .int .i64 h] TGen (0, 0)) * Y)))) : w.cell? ⟨D, 0, none⟩ = some (.int .i64 g) ∧ w.cell? ⟨D, 1, none⟩ = some (.int .i64 h) := by
  have h1 := cells_at hs.right.right.block
  exact ⟨h1 0, h1 1⟩
theorem open_perm (A B C D E : HProp) : A * (B * (C * (D * E))) = D * (A * (B * (C * E))) := by ac_rfl
set_option maxHeartbeats 1000000 in
set_option maxRecDepth 20000 in
theorem open_bad (a : PlaceM) (s : List UInt8) (ha : placeOK a = true) (hs : s.length = 64) (hl : labelOK s = false) (F : HProp) (w : World) (hF : Sat w F) :
    Calls Try.prog 48 #[.agg (plA a), .string (strB s)] w fun e w' => e = .returned (.tuple #[.agg zGen, .string (strB []), .int .i64 7]) ∧ Hid (Same w w' ∧ Sat w' F) := by
  have hLP : labP s = ⟨0, 0, 0⟩ := by unfold labP; rw [hl]; rfl
  have hLG : labG s = g0 := by unfold labG; rw [hl]; rfl
  have hLE : labE s = 7 := by unfold labE; rw [hl]; rfl
  have hva := fun W => valid_any a W
  rw [ha] at hva
  have HVA := Lib.hid hva
  have hlb := fun (F' : HProp) (W : World) (h : Sat W F') => label_any s hs F' W h
  rw [hLP, hLG, hLE] at hlb
  have HLB := Lib.hid hlb
  have HS := Lib.hid hs
  have H1 := Lib.hid (And.intro (((Same.refl w).alloc (.cells (plA a) TPl)).alloc (.cells zGen TGen)) (((hF.alloc (.cells (plA a) TPl)).alloc (.cells zGen TGen)).perm (show _ = pts w.heap.size (.cells (plA a) TPl (0, 0)) * (pts (w.alloc (.cells (plA a) TPl)).heap.size (.cells zGen TGen (0, 0)) * F) from by ac_rfl)))
  rw [World.size_alloc] at H1
  clear hva hlb hF hs hl ha hLP hLG hLE
  go_enter Try.func48, Try.ntmps48
  go_upto_region 1 with ((with_reducible (refine wpList_alloc_zero ?_ TGen ?_ _ (zeroGen _) ?_)); rfl; rfl)
  generalize (w.alloc (.cells (plA a) TPl)).alloc (.cells zGen TGen) = w1 at H1 ⊢
  generalize w.heap.size = B at H1 ⊢
  obtain ⟨⟨b0, b1, b2⟩, ⟨c0, c1⟩, lb, lc⟩ := seal_cells (g := g0) H1.out.2
  go_upto_region 4 with (first
    | (go_at_call 54; refine (HVA.out _).mono ?_; rintro e w2 ⟨rfl, hb⟩; replace H1 := Lib.hid (And.intro (H1.out.1.below hb) (H1.out.2.below hb)); clear b0 b1 b2 c0 c1 lb lc hb; obtain ⟨⟨b0, b1, b2⟩, ⟨c0, c1⟩, lb, lc⟩ := seal_cells (g := g0) H1.out.2)
    | (go_at_call 69; refine (HLB.out _ _ H1.out.2).mono ?_; rintro e w3 ⟨rfl, h3⟩; replace H1 := Lib.hid (And.intro (H1.out.1.trans h3.out.1) h3.out.2); clear b0 b1 b2 c0 c1 lb lc h3; obtain ⟨⟨b0, b1, b2⟩, ⟨c0, c1⟩, lb, lc⟩ := seal_cells (g := g0) H1.out.2))
  have hw := ((H1.out.2.alloc (.cells #[.int .i64 0, .int .i64 0, .int .i64 0] TPl)).alloc (.cells #[.int .i64 g0.epoch, .int .i64 g0.count] TGen))
  rw [World.size_alloc] at hw
  replace H1 := Lib.hid (And.intro ((H1.out.1.alloc (.cells #[.int .i64 0, .int .i64 0, .int .i64 0] TPl)).alloc (.cells #[.int .i64 g0.epoch, .int .i64 g0.count] TGen)) (hw.perm (show _ = pts w3.heap.size (.cells #[.int .i64 0, .int .i64 0, .int .i64 0] TPl (0, 0)) * (pts (w3.heap.size + 1) (.cells #[.int .i64 g0.epoch, .int .i64 g0.count] TGen (0, 0)) * (pts B (.cells (plA a) TPl (0, 0)) * (pts (B + 1) (.cells zGen TGen (0, 0)) * F))) from by ac_rfl)))
  clear hw b0 b1 b2 c0 c1 lb lc
  generalize (w3.alloc (.cells #[.int .i64 0, .int .i64 0, .int .i64 0] TPl)).alloc (.cells #[.int .i64 g0.epoch, .int .i64 g0.count] TGen) = w4 at H1 ⊢
  generalize w3.heap.size = C at H1 ⊢
  obtain ⟨⟨b0, b1, b2⟩, ⟨c0, c1⟩, d0, d1, d2, e0, e1, f0, f1⟩ := open_cells H1.out.2
  go_wp2
  replace H1 := Lib.hid (open_store (g := 0) (h := 0) H1.out.1 H1.out.2)
  refine bodyPost_ret (v := .tuple #[.agg zGen, .string (strB []), .int .i64 7]) (results3 Try.results48 (ResIs.row rfl H1.out.2.block Try.underlying29 rfl (infoGen rfl)) (.tmp rfl) (.tmp rfl)) rfl ?_
  exact ⟨rfl, H1.out.1, H1.out.2.right⟩
set_option maxHeartbeats 1000000 in
set_option maxRecDepth 20000 in
theorem open_else (a : PlaceM) (s : List UInt8) (ha : placeOK a = true) (hs : s.length = 64) (hl : labelOK s = true) (x y z g h : Int) (hp : placeAt s = ⟨x, y, z⟩) (hg : genAt s 8 = ⟨g, h⟩) (hne : (⟨x, y, z⟩ : PlaceM) ≠ a) (F : HProp) (w : World) (hF : Sat w F) :
    Calls Try.prog 48 #[.agg (plA a), .string (strB s)] w fun e w' => e = .returned (.tuple #[.agg zGen, .string (strB []), .int .i64 8]) ∧ Hid (Same w w' ∧ Sat w' F) := by
  have hLP : labP s = ⟨x, y, z⟩ := by unfold labP; rw [hl]; exact hp
  have hLG : labG s = ⟨g, h⟩ := by unfold labG; rw [hl]; exact hg
  have hLE : labE s = 0 := by unfold labE; rw [hl]; rfl
  clear hp hg
  have HNE := Lib.hid (show (x == a.disk && (y == a.area && z == a.index)) = false from by
    rw [Bool.eq_false_iff]
    intro hh
    simp only [Bool.and_eq_true, beq_iff_eq] at hh
    obtain ⟨d, e, f⟩ := a
    simp only at hh
    obtain ⟨rfl, rfl, rfl⟩ := hh
    exact hne rfl)
  clear hne
  have hva := fun W => valid_any a W
  rw [ha] at hva
  have HVA := Lib.hid hva
  have hlb := fun (F' : HProp) (W : World) (h : Sat W F') => label_any s hs F' W h
  rw [hLP, hLG, hLE] at hlb
  have HLB := Lib.hid hlb
  have HS := Lib.hid hs
  have H1 := Lib.hid (And.intro (((Same.refl w).alloc (.cells (plA a) TPl)).alloc (.cells zGen TGen)) (((hF.alloc (.cells (plA a) TPl)).alloc (.cells zGen TGen)).perm (show _ = pts w.heap.size (.cells (plA a) TPl (0, 0)) * (pts (w.alloc (.cells (plA a) TPl)).heap.size (.cells zGen TGen (0, 0)) * F) from by ac_rfl)))
  rw [World.size_alloc] at H1
  clear hva hlb hF hs hl ha hLP hLG hLE
  go_enter Try.func48, Try.ntmps48
  go_upto_region 1 with ((with_reducible (refine wpList_alloc_zero ?_ TGen ?_ _ (zeroGen _) ?_)); rfl; rfl)
  generalize (w.alloc (.cells (plA a) TPl)).alloc (.cells zGen TGen) = w1 at H1 ⊢
  generalize w.heap.size = B at H1 ⊢
  obtain ⟨⟨b0, b1, b2⟩, ⟨c0, c1⟩, lb, lc⟩ := seal_cells (g := g0) H1.out.2
  go_upto_region 4 with (first
    | (go_at_call 54; refine (HVA.out _).mono ?_; rintro e w2 ⟨rfl, hb⟩; replace H1 := Lib.hid (And.intro (H1.out.1.below hb) (H1.out.2.below hb)); clear b0 b1 b2 c0 c1 lb lc hb; obtain ⟨⟨b0, b1, b2⟩, ⟨c0, c1⟩, lb, lc⟩ := seal_cells (g := g0) H1.out.2)
    | (go_at_call 69; refine (HLB.out _ _ H1.out.2).mono ?_; rintro e w3 ⟨rfl, h3⟩; replace H1 := Lib.hid (And.intro (H1.out.1.trans h3.out.1) h3.out.2); clear b0 b1 b2 c0 c1 lb lc h3; obtain ⟨⟨b0, b1, b2⟩, ⟨c0, c1⟩, lb, lc⟩ := seal_cells (g := g0) H1.out.2))
  have hw := ((H1.out.2.alloc (.cells (plA ⟨x, y, z⟩) TPl)).alloc (.cells (genA ⟨g, h⟩) TGen))
  rw [World.size_alloc] at hw
  replace H1 := Lib.hid (And.intro ((H1.out.1.alloc (.cells (plA ⟨x, y, z⟩) TPl)).alloc (.cells (genA ⟨g, h⟩) TGen)) (hw.perm (show _ = pts w3.heap.size (.cells (plA ⟨x, y, z⟩) TPl (0, 0)) * (pts (w3.heap.size + 1) (.cells (genA ⟨g, h⟩) TGen (0, 0)) * (pts B (.cells (plA a) TPl (0, 0)) * (pts (B + 1) (.cells zGen TGen (0, 0)) * F))) from by ac_rfl)))
  clear hw b0 b1 b2 c0 c1 lb lc
  generalize (w3.alloc (.cells (plA ⟨x, y, z⟩) TPl)).alloc (.cells (genA ⟨g, h⟩) TGen) = w4 at H1 ⊢
  generalize w3.heap.size = C at H1 ⊢
  obtain ⟨⟨b0, b1, b2⟩, ⟨c0, c1⟩, d0, d1, d2, e0, e1, f0, f1⟩ := open_cells H1.out.2
  cases z1 : (x == a.disk)
  · clear HNE
    go_wp2
    replace H1 := Lib.hid (open_store (g := 0) (h := 0) H1.out.1 H1.out.2)
    refine bodyPost_ret (v := .tuple #[.agg zGen, .string (strB []), .int .i64 8]) (results3 Try.results48 (ResIs.row rfl H1.out.2.block Try.underlying29 rfl (infoGen rfl)) (.tmp rfl) (.tmp rfl)) rfl ?_
    exact ⟨rfl, H1.out.1, H1.out.2.right⟩
  cases z2 : (y == a.area)
  · clear HNE
    go_wp2
    replace H1 := Lib.hid (open_store (g := 0) (h := 0) H1.out.1 H1.out.2)
    refine bodyPost_ret (v := .tuple #[.agg zGen, .string (strB []), .int .i64 8]) (results3 Try.results48 (ResIs.row rfl H1.out.2.block Try.underlying29 rfl (infoGen rfl)) (.tmp rfl) (.tmp rfl)) rfl ?_
    exact ⟨rfl, H1.out.1, H1.out.2.right⟩
  have z3 : (z == a.index) = false := by have e := HNE.out; rw [z1, z2] at e; simpa using e
  clear HNE
  go_wp2
  replace H1 := Lib.hid (open_store (g := 0) (h := 0) H1.out.1 H1.out.2)
  refine bodyPost_ret (v := .tuple #[.agg zGen, .string (strB []), .int .i64 8]) (results3 Try.results48 (ResIs.row rfl H1.out.2.block Try.underlying29 rfl (infoGen rfl)) (.tmp rfl) (.tmp rfl)) rfl ?_
  exact ⟨rfl, H1.out.1, H1.out.2.right⟩
set_option maxHeartbeats 1000000 in
set_option maxRecDepth 20000 in
theorem open_good (a : PlaceM) (s : List UInt8) (ha : placeOK a = true) (hs : s.length = 64) (hl : labelOK s = true) (g h : Int) (hp : placeAt s = a) (hg : genAt s 8 = ⟨g, h⟩) (F : HProp) (w : World) (hF : Sat w F) :
    Calls Try.prog 48 #[.agg (plA a), .string (strB s)] w fun e w' => e = .returned (.tuple #[.agg (genA ⟨g, h⟩), .string (strB (subL s 16 56)), .int .i64 0]) ∧ Hid (Same w w' ∧ Sat w' F) := by
  obtain ⟨x, y, z⟩ := a
  have hLP : labP s = ⟨x, y, z⟩ := by unfold labP; rw [hl]; exact hp
  have hLG : labG s = ⟨g, h⟩ := by unfold labG; rw [hl]; exact hg
  have hLE : labE s = 0 := by unfold labE; rw [hl]; rfl
  clear hp hg
  have hva := fun W => valid_any ⟨x, y, z⟩ W
  rw [ha] at hva
  have HVA := Lib.hid hva
  have hlb := fun (F' : HProp) (W : World) (h : Sat W F') => label_any s hs F' W h
  rw [hLP, hLG, hLE] at hlb
  have HLB := Lib.hid hlb
  have HS := Lib.hid hs
  have H1 := Lib.hid (And.intro (((Same.refl w).alloc (.cells (plA ⟨x, y, z⟩) TPl)).alloc (.cells zGen TGen)) (((hF.alloc (.cells (plA ⟨x, y, z⟩) TPl)).alloc (.cells zGen TGen)).perm (show _ = pts w.heap.size (.cells (plA ⟨x, y, z⟩) TPl (0, 0)) * (pts (w.alloc (.cells (plA ⟨x, y, z⟩) TPl)).heap.size (.cells zGen TGen (0, 0)) * F) from by ac_rfl)))
  rw [World.size_alloc] at H1
  clear hva hlb hF hs hl ha hLP hLG hLE
  go_enter Try.func48, Try.ntmps48
  go_upto_region 1 with ((with_reducible (refine wpList_alloc_zero ?_ TGen ?_ _ (zeroGen _) ?_)); rfl; rfl)
  generalize (w.alloc (.cells (plA ⟨x, y, z⟩) TPl)).alloc (.cells zGen TGen) = w1 at H1 ⊢
  generalize w.heap.size = B at H1 ⊢
  obtain ⟨⟨b0, b1, b2⟩, ⟨c0, c1⟩, lb, lc⟩ := seal_cells (g := g0) H1.out.2
  go_upto_region 4 with (first
    | (go_at_call 54; refine (HVA.out _).mono ?_; rintro e w2 ⟨rfl, hb⟩; replace H1 := Lib.hid (And.intro (H1.out.1.below hb) (H1.out.2.below hb)); clear b0 b1 b2 c0 c1 lb lc hb; obtain ⟨⟨b0, b1, b2⟩, ⟨c0, c1⟩, lb, lc⟩ := seal_cells (g := g0) H1.out.2)
    | (go_at_call 69; refine (HLB.out _ _ H1.out.2).mono ?_; rintro e w3 ⟨rfl, h3⟩; replace H1 := Lib.hid (And.intro (H1.out.1.trans h3.out.1) h3.out.2); clear b0 b1 b2 c0 c1 lb lc h3; obtain ⟨⟨b0, b1, b2⟩, ⟨c0, c1⟩, lb, lc⟩ := seal_cells (g := g0) H1.out.2))
  have hw := ((H1.out.2.alloc (.cells (plA ⟨x, y, z⟩) TPl)).alloc (.cells (genA ⟨g, h⟩) TGen))
  rw [World.size_alloc] at hw
  replace H1 := Lib.hid (And.intro ((H1.out.1.alloc (.cells (plA ⟨x, y, z⟩) TPl)).alloc (.cells (genA ⟨g, h⟩) TGen)) (hw.perm (show _ = pts w3.heap.size (.cells (plA ⟨x, y, z⟩) TPl (0, 0)) * (pts (w3.heap.size + 1) (.cells (genA ⟨g, h⟩) TGen (0, 0)) * (pts B (.cells (plA ⟨x, y, z⟩) TPl (0, 0)) * (pts (B + 1) (.cells zGen TGen (0, 0)) * F))) from by ac_rfl)))
  clear hw b0 b1 b2 c0 c1 lb lc
  generalize (w3.alloc (.cells (plA ⟨x, y, z⟩) TPl)).alloc (.cells (genA ⟨g, h⟩) TGen) = w4 at H1 ⊢
  generalize w3.heap.size = C at H1 ⊢
  obtain ⟨⟨b0, b1, b2⟩, ⟨c0, c1⟩, d0, d1, d2, e0, e1, f0, f1⟩ := open_cells H1.out.2
  go_upto_region 8 with (fail)
  replace H1 := Lib.hid (And.intro H1.out.1.drew H1.out.2.drew)
  have hS0 := open_cells2 H1.out.2
  clear b0 b1 b2 c0 c1 d0 d1 d2 e0 e1 f0 f1
  refine reg_begin (fun w' => w'.cell? ⟨C + 1, 0, none⟩ = some (.int .i64 g) ∧ w'.cell? ⟨C + 1, 1, none⟩ = some (.int .i64 h)) (by kernel_rfl) ?_
  (apply reg_take 0 rfl rfl (by decide +kernel) rfl); (rintro w' ⟨h1, h2⟩; go_simp; rfl); exact hS0; simp only [List.setIfInBounds_toArray, List.set_cons_succ, List.set_cons_zero]
  (apply reg_take 1 rfl rfl (by decide +kernel) rfl); (rintro w' ⟨h1, h2⟩; go_simp; rfl); exact hS0; simp only [List.setIfInBounds_toArray, List.set_cons_succ, List.set_cons_zero]
  refine reg_take 2 (v := .string (strB (subL s 16 56))) rfl rfl (by decide +kernel) rfl (fun w' _ => exec_str_slice (i := 16) (j := 56) rfl Try.underlying9 rfl rfl rfl (by decide) (by rw [HS.out]; decide)) hS0 ?_; simp only [List.setIfInBounds_toArray, List.set_cons_succ, List.set_cons_zero]
  refine reg_call 3 rfl rfl (by decide +kernel) rfl (f := 70) (args := #[.string (strB (subL s 16 56))]) (R := fun v w' => v = .string (strB (subL s 16 56)) ∧ Hid (Below w4.drew.heap.size w4.drew w')) (by kernel_rfl) ((clone_any (strB (subL s 16 56)) w4.drew (by rw [strB_size]; simp [subL]; omega)).mono fun e w' h => ⟨_, h.1, rfl, h.2⟩) ?_
  rintro _ w5 ⟨rfl, hb⟩
  replace H1 := Lib.hid (And.intro (H1.out.1.below hb.out) (H1.out.2.below hb.out))
  replace hS0 := open_cells2 H1.out.2
  refine ⟨hS0, ?_⟩
  simp only [List.setIfInBounds_toArray, List.set_cons_succ, List.set_cons_zero]
  clear hb
  refine reg_store_blk 4 (T := TGen) (old := zGen) (new := #[.int .i64 g, .int .i64 h]) rfl rfl (by decide +kernel) rfl rfl rfl rfl (H1.out.2.perm (open_perm _ _ _ _ _)) (infoGen rfl) rfl (by simp [Value.oneCell']) ?_
  intro w6 h6
  replace H1 := Lib.hid (And.intro (H1.out.1.trans h6.out.1) h6.out.2)
  replace hS0 := open_cells3 h6.out.2
  refine ⟨hS0, ?_⟩
  clear h6
  (apply reg_take 5 rfl rfl (by decide +kernel) rfl); (rintro w' ⟨h1, h2⟩; go_simp; rfl); exact hS0; simp only [List.setIfInBounds_toArray, List.set_cons_succ, List.set_cons_zero]
  (apply reg_take 6 rfl rfl (by decide +kernel) rfl); (rintro w' ⟨h1, h2⟩; go_simp; rfl); exact hS0; simp only [List.setIfInBounds_toArray, List.set_cons_succ, List.set_cons_zero]
  refine reg_done (by decide +kernel) ?_
  clear hS0
  go_wp2
  refine bodyPost_ret (v := .tuple #[.agg (genA ⟨g, h⟩), .string (strB (subL s 16 56)), .int .i64 0]) (results3 Try.results48 (ResIs.row rfl H1.out.2.block Try.underlying29 rfl (infoGen rfl)) (.tmp rfl) (.tmp rfl)) rfl ?_
  exact ⟨rfl, H1.out.1, H1.out.2.right.right.right.right⟩
/-- What Open answers. -/
def openA (r : Option (GenM × List UInt8)) : Array Value × List UInt8 := match r with | some (g, p) => (genA g, p) | none => (zGen, [])
theorem open_any (a : PlaceM) (s : List UInt8) (ha : placeOK a = true) (hs : s.length = 64) (F : HProp) (w : World) (hF : Sat w F) :
    Calls Try.prog 48 #[.agg (plA a), .string (strB s)] w fun e w' => ∃ k : Int, (k = 0 ↔ (openM a s).isSome = true) ∧ e = .returned (.tuple #[.agg (openA (openM a s)).1, .string (strB (openA (openM a s)).2), .int .i64 k]) ∧ Hid (Same w w' ∧ Sat w' F) := by
  cases hl : labelOK s with
  | false =>
    have e : openM a s = none := by unfold openM; rw [if_neg (by rw [hl]; simp)]
    rw [e]
    exact (open_bad a s ha hs hl F w hF).mono fun _ _ h => ⟨7, by simp, h.1, h.2⟩
  | true =>
    by_cases hp : placeAt s = a
    · have e : openM a s = some (genAt s 8, subL s 16 56) := by unfold openM; rw [if_pos ⟨ha, hs, hl, hp⟩]
      rw [e]
      exact (open_good a s ha hs hl _ _ hp rfl F w hF).mono fun _ _ h => ⟨0, by simp, h.1, h.2⟩
    · have e : openM a s = none := by unfold openM; rw [if_neg (by rintro ⟨_, _, _, h⟩; exact hp h)]
      rw [e]
      exact (open_else a s ha hs hl _ _ _ _ _ rfl rfl hp F w hF).mono fun _ _ h => ⟨8, by simp, h.1, h.2⟩
end Go.Proofs.Ytbegomjbakidmaa
