/- tree.Tree.Set. -/
import Derived.Test.YtednjhlkhecihaaGreatDoorVu
namespace Go.Proofs.YtednjhlkhecihaaGreatDoor
open Go.RowKit Go.Vol Go.Sl

theorem set_any (L : Nat) (hL : L ≤ 2) (b : Nat) (c : Int) (hb : b < 4096) : ∀ (ok : Nat → Prop) (v : Value) (m : MapM) (w : World), NodeOk TNode ok w L v m → (∀ k, w.heap.size ≤ k → ok k) →
      Calls Tryz.prog 92 #[v, .int .i64 (L : Int), .int .i64 (b : Int), .int .i64 c] w fun e w' => ∃ v', e = .returned v' ∧ Hid (Below w.heap.size w w' ∧ NodeOk TNode ok w' L v' (upd m (b % 16 ^ (L + 1)) (some c))) := by
  induction L with
  | zero => intro ok v m w hn hok; exact set0_any ok v m b c hb w hn hok
  | succ L ih => intro ok v m w hn hok; exact setS_any ok L hL b c hb (ih (by omega)) v m w hn hok
theorem set2_any (v : Value) (m : MapM) (b : Nat) (c : Int) (hb : b < 4096) (w : World) (hn : NodeAt TNode w 2 v m) :
    Calls Tryz.prog 92 #[v, .int .i64 2, .int .i64 (b : Int), .int .i64 c] w fun e w' => ∃ v', e = .returned v' ∧ Hid (Below w.heap.size w w' ∧ NodeAt TNode w' 2 v' (upd m b (some c))) := by
  have := set_any 2 (by omega) b c hb anyBlock v m w hn (fun _ _ => trivial)
  rw [Nat.mod_eq_of_lt (show b < 16 ^ (2 + 1) by omega)] at this
  exact this

theorem tree_cells {w : World} {B : Nat} {x y : Value} {X : HProp} (h : Sat w (pts B (.cells #[x, y] TTree (0, 0)) * X)) : w.cell? ⟨B, 0, none⟩ = some x ∧ w.cell? ⟨B, 1, none⟩ = some y ∧ w.frozen? ⟨B, 0, none⟩ = false ∧ w.frozen? ⟨B, 1, none⟩ = false ∧ B < w.heap.size :=
  ⟨cells_at h.block 0, cells_at h.block 1, thawed_at h.block 0, thawed_at h.block 1, h.lt⟩
theorem star_comm3 (P Q R : HProp) : P * (Q * R) = Q * (P * R) := by ac_rfl
theorem info_tree : (Tryz.prog.info? TTree).map (·.size) = some 2 := by kernel_rfl
theorem upd_self {m : MapM} {b : Nat} {v : Option Int} (h : m b = v) : upd m b v = m := by
  funext i
  unfold upd
  by_cases hi : i = b
  · rw [if_pos hi, hi, h]
  · rw [if_neg hi]
/-- What Set returns. -/
def TSetOut (ok : Nat → Prop) (w : World) (m : MapM) (e : Ending) (w' : World) : Prop := ∃ q : Option Addr, e = .returned (.agg #[.pointer q, .int .i64 (cnt m : Int)]) ∧ Below w.heap.size w w' ∧ NodeOk TNode ok w' 2 (.pointer q) m

theorem TSetOut.mk {ok : Nat → Prop} {w w' : World} {m : MapM} (q : Option Addr) (hb : Below w.heap.size w w') (hn : NodeOk TNode ok w' 2 (.pointer q) m) : TSetOut ok w m (.returned (.agg #[.pointer q, .int .i64 (cnt m : Int)])) w' := ⟨q, rfl, hb, hn⟩

set_option maxHeartbeats 2000000 in
theorem tset_any (ok : Nat → Prop) (r : Value) (m : MapM) (b : Nat) (c : Int) (hb : b < 4096) (w : World) (hr : NodeOk TNode ok w 2 r m) (hok : ∀ k, w.heap.size ≤ k → ok k) :
    Calls Tryz.prog 62 #[.agg #[r, .int .i64 (cnt m : Int)], .int .i64 (b : Int), .int .i64 c] w (TSetOut ok w (upd m b (some c))) := by
  obtain ⟨q, rfl⟩ := NodeOk.ptr hr
  have hcn := cnt_le m
  have hcs := cnt_set (m := m) c hb
  have hblk : blkB (b : Int) = true := SpaceM.blkB_iff.2 ⟨by omega, by omega⟩
  have HV := Lib.hid (fun w' : World => valid_any (b : Int) w')
  rw [hblk] at HV
  have HR := Lib.hid (And.intro hr hok)
  have H1 := Lib.hid (And.intro (((Same.refl w).alloc (.cells #[.pointer q, .int .i64 (cnt m : Int)] TTree)).alloc (.cells #[.pointer none, .int .i64 0] TTree)) (((Sat.old w).alloc (.cells #[.pointer q, .int .i64 (cnt m : Int)] TTree)).alloc (.cells #[.pointer none, .int .i64 0] TTree)))
  rw [World.size_alloc] at H1
  clear hr hblk hok
  have HCS := Lib.hid hcs
  clear hcs
  go_enter Tryz.func62, Tryz.ntmps62
  go_upto_region 2 with (go_at_call 81; refine (tget_any _ _ m b hb _ (HR.out.1.at.below (H1.out.1.below_of (H1.out.2.perm (star_assoc _ _ _).symm)))).mono ?_; rintro e w1 ⟨rfl, h2⟩; replace H1 := Lib.hid (And.intro (H1.out.1.below h2) (H1.out.2.below h2)); clear h2)
  have HB := Lib.hid (And.intro (Nat.le_refl w.heap.size) (Nat.le_succ w.heap.size))
  generalize hB6 : w.heap.size + 1 = B6 at H1 ⊢
  generalize hB3 : w.heap.size = B3 at H1 ⊢
  replace HB := Lib.hid (And.intro (show w.heap.size ≤ B3 by omega) (show w.heap.size ≤ B6 by omega))
  clear hB6 hB3
  obtain ⟨x0, x1, xf0, xf1, xl⟩ := tree_cells H1.out.2
  obtain ⟨y0, y1, yf0, yf1, yl⟩ := tree_cells H1.out.2.right
  cases hmb : m b with
  | none =>
    rw [hmb] at HCS
    clear hmb
    go_upto_region 6 with (go_at_call 91; refine (HV.out _).mono ?_; rintro e w' ⟨rfl, rfl⟩)
    have hs2 := (H1.out.2.perm (star_comm3 _ _ _)).setCell (i := 1) (.int .i64 ((cnt m : Int) + 1))
    replace H1 := Lib.hid (And.intro (H1.out.1.setCell ⟨B3, 1, none⟩ (.int .i64 ((cnt m : Int) + 1))) (hs2.perm (show _ = pts B6 _ * (pts B3 (.cells #[.pointer q, .int .i64 ((cnt m : Int) + 1)] TTree (0, 0)) * old w) from by rw [star_comm3]; rfl)))
    generalize w1.setCell ⟨B3, 1, none⟩ (.int .i64 ((cnt m : Int) + 1)) = W2 at H1 ⊢
    clear hs2 x0 x1 xf0 xf1 xl y0 y1 yf0 yf1 yl
    have hbw := H1.out.1.below_of (H1.out.2.perm (star_assoc _ _ _).symm)
    have hst := set_any 2 (by omega) b c hb (fun k => ok k ∧ k ≠ B3 ∧ k ≠ B6) (.pointer q) m W2 ((NodeOk.weaken (ok' := fun k => ok k ∧ k ≠ B3 ∧ k ≠ B6) (fun k h1 hk => ⟨h1, by have := HB.out.1; omega, by have := HB.out.2; omega⟩) HR.out.1).below hbw) (fun k hk => ⟨HR.out.2 k (by have := hbw.size; omega), by have := H1.out.2.right.lt; omega, by have := H1.out.2.lt; omega⟩)
    rw [Nat.mod_eq_of_lt (show b < 16 ^ (2 + 1) by omega)] at hst
    have HST := Lib.hid hst
    obtain ⟨x0, x1, xf0, xf1, xl⟩ := tree_cells H1.out.2
    obtain ⟨y0, y1, yf0, yf1, yl⟩ := tree_cells H1.out.2.right
    clear hst hbw
    go_upto_region 7 with (go_at_call 92; refine HST.out.mono ?_; clear HST; rintro e w3 ⟨v3, rfl, h3⟩; obtain ⟨q3, rfl⟩ := NodeOk.ptr h3.out.2; replace H1 := Lib.hid (And.intro (H1.out.1.below h3.out.1) (And.intro (H1.out.2.below h3.out.1) h3.out.2)); clear h3 x0 x1 xf0 xf1 xl y0 y1 yf0 yf1 yl; obtain ⟨y0, y1, yf0, yf1, yl⟩ := tree_cells H1.out.2.1.right)
    have hs3 := (H1.out.2.1.perm (star_comm3 _ _ _)).setCell (i := 0) (.pointer q3)
    replace H1 := Lib.hid (And.intro (H1.out.1.setCell ⟨B3, 0, none⟩ (.pointer q3)) (And.intro (hs3.perm (show _ = pts B6 _ * (pts B3 (.cells #[.pointer q3, .int .i64 ((cnt m : Int) + 1)] TTree (0, 0)) * old w) from by rw [star_comm3]; rfl)) (NodeOk.keep (fun k hk _ => heap_setCell_other _ ⟨B3, 0, none⟩ _ (.pointer q3) hk.2.1) H1.out.2.2)))
    generalize w3.setCell ⟨B3, 0, none⟩ (.pointer q3) = W4 at H1 ⊢
    clear hs3 y0 y1 yf0 yf1 yl
    obtain ⟨x0, x1, xf0, xf1, xl⟩ := tree_cells H1.out.2.1
    obtain ⟨y0, y1, yf0, yf1, yl⟩ := tree_cells H1.out.2.1.right
    go_wp2
    have h9 := (H1.out.2.1.setCell (i := 0) (.pointer q3)).setCell (i := 1) (.int .i64 ((cnt m : Int) + 1))
    have h8 := (H1.out.1.setCell ⟨B6, 0, none⟩ (.pointer q3)).setCell ⟨B6, 1, none⟩ (.int .i64 ((cnt m : Int) + 1))
    refine bodyPost_ret (v := .agg #[.pointer q3, .int .i64 ((cnt m : Int) + 1)]) (results_cell_row Tryz.results62 _ _ B6 TTree #[.pointer q3, .int .i64 ((cnt m : Int) + 1)] (0, 0) _ rfl h9.block Tryz.underlying80 rfl info_tree) rfl ?_
    refine ⟨q3, by rw [HCS.out]; rfl, h8.below_of (h9.perm (star_assoc _ _ _).symm), NodeOk.weaken (fun k hk _ => hk.1) (NodeOk.keep (fun k hk _ => ?_) H1.out.2.2)⟩
    rw [heap_setCell_other _ ⟨B6, 1, none⟩ _ _ hk.2.2, heap_setCell_other _ ⟨B6, 0, none⟩ _ _ hk.2.2]
  | some x =>
    rw [hmb] at HCS
    by_cases hxc : x = c
    · subst hxc
      have hxx : (x == x) = true := by simp
      have HM := Lib.hid (upd_self hmb)
      clear hmb HCS
      go_wp2_with (go_at_call 91; refine (HV.out _).mono ?_; rintro e w' ⟨rfl, rfl⟩)
      have h9 := (H1.out.2.setCell (i := 0) (.pointer q)).setCell (i := 1) (.int .i64 (cnt m : Int))
      have h8 := (H1.out.1.setCell ⟨B6, 0, none⟩ (.pointer q)).setCell ⟨B6, 1, none⟩ (.int .i64 (cnt m : Int))
      have hbw := h8.below_of (h9.perm (star_assoc _ _ _).symm)
      refine bodyPost_ret (v := .agg #[.pointer q, .int .i64 (cnt m : Int)]) (results_cell_row Tryz.results62 _ _ B6 TTree #[.pointer q, .int .i64 (cnt m : Int)] (0, 0) _ rfl h9.block Tryz.underlying80 rfl info_tree) rfl ?_
      rw [HM.out]
      exact TSetOut.mk q hbw (HR.out.1.below hbw)
    · have hxx : (x == c) = false := by simpa using hxc
      clear hmb hxc
      go_upto_region 6 with (go_at_call 91; refine (HV.out _).mono ?_; rintro e w' ⟨rfl, rfl⟩)
      obtain ⟨W2, rfl⟩ : ∃ W2, W2 = w1 := ⟨_, rfl⟩
      clear x0 x1 xf0 xf1 xl y0 y1 yf0 yf1 yl
      have hbw := H1.out.1.below_of (H1.out.2.perm (star_assoc _ _ _).symm)
      have hst := set_any 2 (by omega) b c hb (fun k => ok k ∧ k ≠ B3 ∧ k ≠ B6) (.pointer q) m W2 ((NodeOk.weaken (ok' := fun k => ok k ∧ k ≠ B3 ∧ k ≠ B6) (fun k h1 hk => ⟨h1, by have := HB.out.1; omega, by have := HB.out.2; omega⟩) HR.out.1).below hbw) (fun k hk => ⟨HR.out.2 k (by have := hbw.size; omega), by have := H1.out.2.right.lt; omega, by have := H1.out.2.lt; omega⟩)
      rw [Nat.mod_eq_of_lt (show b < 16 ^ (2 + 1) by omega)] at hst
      have HST := Lib.hid hst
      obtain ⟨x0, x1, xf0, xf1, xl⟩ := tree_cells H1.out.2
      obtain ⟨y0, y1, yf0, yf1, yl⟩ := tree_cells H1.out.2.right
      clear hst hbw
      go_upto_region 7 with (go_at_call 92; refine HST.out.mono ?_; clear HST; rintro e w3 ⟨v3, rfl, h3⟩; obtain ⟨q3, rfl⟩ := NodeOk.ptr h3.out.2; replace H1 := Lib.hid (And.intro (H1.out.1.below h3.out.1) (And.intro (H1.out.2.below h3.out.1) h3.out.2)); clear h3 x0 x1 xf0 xf1 xl y0 y1 yf0 yf1 yl; obtain ⟨y0, y1, yf0, yf1, yl⟩ := tree_cells H1.out.2.1.right)
      have hs3 := (H1.out.2.1.perm (star_comm3 _ _ _)).setCell (i := 0) (.pointer q3)
      replace H1 := Lib.hid (And.intro (H1.out.1.setCell ⟨B3, 0, none⟩ (.pointer q3)) (And.intro (hs3.perm (show _ = pts B6 _ * (pts B3 (.cells #[.pointer q3, .int .i64 (cnt m : Int)] TTree (0, 0)) * old w) from by rw [star_comm3]; rfl)) (NodeOk.keep (fun k hk _ => heap_setCell_other _ ⟨B3, 0, none⟩ _ (.pointer q3) hk.2.1) H1.out.2.2)))
      generalize w3.setCell ⟨B3, 0, none⟩ (.pointer q3) = W4 at H1 ⊢
      clear hs3 y0 y1 yf0 yf1 yl
      obtain ⟨x0, x1, xf0, xf1, xl⟩ := tree_cells H1.out.2.1
      obtain ⟨y0, y1, yf0, yf1, yl⟩ := tree_cells H1.out.2.1.right
      go_wp2
      have h9 := (H1.out.2.1.setCell (i := 0) (.pointer q3)).setCell (i := 1) (.int .i64 (cnt m : Int))
      have h8 := (H1.out.1.setCell ⟨B6, 0, none⟩ (.pointer q3)).setCell ⟨B6, 1, none⟩ (.int .i64 (cnt m : Int))
      refine bodyPost_ret (v := .agg #[.pointer q3, .int .i64 (cnt m : Int)]) (results_cell_row Tryz.results62 _ _ B6 TTree #[.pointer q3, .int .i64 (cnt m : Int)] (0, 0) _ rfl h9.block Tryz.underlying80 rfl info_tree) rfl ?_
      refine ⟨q3, by rw [HCS.out]; simp, h8.below_of (h9.perm (star_assoc _ _ _).symm), NodeOk.weaken (fun k hk _ => hk.1) (NodeOk.keep (fun k hk _ => ?_) H1.out.2.2)⟩
      rw [heap_setCell_other _ ⟨B6, 1, none⟩ _ _ hk.2.2, heap_setCell_other _ ⟨B6, 0, none⟩ _ _ hk.2.2]
end Go.Proofs.YtednjhlkhecihaaGreatDoor
