import Derived.Test.YteikbikopgabjaaGreatDoorH12
import Derived.Test.YteikbikopgabjaaGreatDoorH11
import Derived.Test.YteikbikopgabjaaGreatDoorH01
import Derived.Shelf.Abstract
/- Part 13 of a proof; the last part says what is proved. -/
section
namespace Go.Proofs.YteikbikopgabjaaGreatDoor
open Go.RowKit Go.Vol Go.Sl
theorem set_any (L : Nat) (hL : L ≤ 2) (b : Nat) (c : Int) (hb : b < 4096) : ∀ (ok : Nat → Prop) (v : Value) (m : MapM) (w : World), NodeOk TNode ok w L v m → (∀ k, w.heap.size ≤ k → ok k) →
   Calls Tryz.prog 108 #[v, .int .i64 (L : Int), .int .i64 (b : Int), .int .i64 c] w fun e w' => ∃ v', e = .returned v' ∧ Hid (Below w.heap.size w w' ∧ NodeOk TNode ok w' L v' (upd m (b % 16 ^ (L + 1)) (some c))) := by
 induction L with
 | zero => intro ok v m w hn hok; exact set0_any ok v m b c hb w hn hok
 | succ L ih => intro ok v m w hn hok; exact setS_any ok L hL b c hb (ih (by omega)) v m w hn hok
theorem tree_cells {w : World} {B : Nat} {x y : Value} {X : HProp} (h : Sat w (pts B (.cells #[x, y] TTree (0, 0)) * X)) : w.cell? ⟨B, 0, none⟩ = some x ∧ w.cell? ⟨B, 1, none⟩ = some y ∧ w.frozen? ⟨B, 0, none⟩ = false ∧ w.frozen? ⟨B, 1, none⟩ = false ∧ B < w.heap.size :=
 ⟨cells_at h.block 0, cells_at h.block 1, thawed_at h.block 0, thawed_at h.block 1, h.lt⟩
theorem star_comm3 (P Q R : HProp) : P * (Q * R) = Q * (P * R) := by ac_rfl
theorem info_tree : (Tryz.prog.info? TTree).map (·.size) = some 2 := by kernel_rfl
theorem upd_self {m : MapM} {b : Nat} {v : Option Int} (h : m b = v) : upd m b v = m := by
 funext i
 unfold upd
 by_cases hi : i = b
 ·rw [if_pos hi, hi, h]
 ·rw [if_neg hi]
def TSetOut (ok : Nat → Prop) (w : World) (m : MapM) (e : Ending) (w' : World) : Prop := ∃ q : Option Addr, e = .returned (.agg #[.pointer q, .int .i64 (cnt m : Int)]) ∧ Below w.heap.size w w' ∧ NodeOk TNode ok w' 2 (.pointer q) m
theorem TSetOut.mk {ok : Nat → Prop} {w w' : World} {m : MapM} (q : Option Addr) (hb : Below w.heap.size w w') (hn : NodeOk TNode ok w' 2 (.pointer q) m) : TSetOut ok w m (.returned (.agg #[.pointer q, .int .i64 (cnt m : Int)])) w' := ⟨q, rfl, hb, hn⟩
set_option maxHeartbeats 2000000 in
theorem tset_any (ok : Nat → Prop) (r : Value) (m : MapM) (b : Nat) (c : Int) (hb : b < 4096) (w : World) (hr : NodeOk TNode ok w 2 r m) (hok : ∀ k, w.heap.size ≤ k → ok k) :
  Calls Tryz.prog 82 #[.agg #[r, .int .i64 (cnt m : Int)], .int .i64 (b : Int), .int .i64 c] w (TSetOut ok w (upd m b (some c))) := by
 obtain ⟨q, rfl⟩ := NodeOk.ptr hr
 have hcn := cnt_le m
 have hcs := cnt_set (m := m) c hb
 have hblk : blkB (b : Int) = true := SpaceM.blkB_iff.2 ⟨by omega, by omega⟩
 have HV := Lib.hid (fun w' : World => valid_any (b : Int) w')
 rw [hblk] at HV
 have HR := Lib.hid (And.intro hr hok)
 have H1 := Lib.hid (And.intro (((Same.refl w).alloc (.cells #[.pointer q, .int .i64 (cnt m : Int)] TTree)).alloc (.cells #[.pointer none, .int .i64 0] TTree)) (((Sat.old w).alloc (.cells #[.pointer q, .int .i64 (cnt m : Int)] TTree)).alloc (.cells #[.pointer none, .int .i64 0] TTree)))
 rw [World.size_alloc] at H1
 clear hr hblk hok
 have HCS := Lib.hid hcs
 clear hcs
 go_enter Tryz.func82, Tryz.ntmps82
 go_upto_region 2 with (go_at_call 106; refine (tget_any _ _ m b hb _ (HR.out.1.at.below (H1.out.1.below_of (H1.out.2.perm (star_assoc _ _ _).symm)))).mono ?_; rintro e w1 ⟨rfl, h2⟩; replace H1 := Lib.hid (And.intro (H1.out.1.below h2) (H1.out.2.below h2)); clear h2)
 have HB := Lib.hid (And.intro (Nat.le_refl w.heap.size) (Nat.le_succ w.heap.size))
 generalize hB6 : w.heap.size + 1 = B6 at H1 ⊢
 generalize hB3 : w.heap.size = B3 at H1 ⊢
 replace HB := Lib.hid (And.intro (show w.heap.size ≤ B3 by omega) (show w.heap.size ≤ B6 by omega))
 clear hB6 hB3
 obtain ⟨x0, x1, xf0, xf1, xl⟩ := tree_cells H1.out.2
 obtain ⟨y0, y1, yf0, yf1, yl⟩ := tree_cells H1.out.2.right
 cases hmb : m b with
 | none =>
  rw [hmb] at HCS
  clear hmb
  go_upto_region 6 with (go_at_call 107; refine (HV.out _).mono ?_; rintro e w' ⟨rfl, rfl⟩)
  have hs2 := (H1.out.2.perm (star_comm3 _ _ _)).setCell (i := 1) (.int .i64 ((cnt m : Int) + 1))
  replace H1 := Lib.hid (And.intro (H1.out.1.setCell ⟨B3, 1, none⟩ (.int .i64 ((cnt m : Int) + 1))) (hs2.perm (show _ = pts B6 _ * (pts B3 (.cells #[.pointer q, .int .i64 ((cnt m : Int) + 1)] TTree (0, 0)) * old w) from by rw [star_comm3]; rfl)))
  generalize w1.setCell ⟨B3, 1, none⟩ (.int .i64 ((cnt m : Int) + 1)) = W2 at H1 ⊢
  clear hs2 x0 x1 xf0 xf1 xl y0 y1 yf0 yf1 yl
  have hbw := H1.out.1.below_of (H1.out.2.perm (star_assoc _ _ _).symm)
  have hst := set_any 2 (by omega) b c hb (fun k => ok k ∧ k ≠ B3 ∧ k ≠ B6) (.pointer q) m W2 ((NodeOk.weaken (ok' := fun k => ok k ∧ k ≠ B3 ∧ k ≠ B6) (fun k h1 hk => ⟨h1, by have := HB.out.1; omega, by have := HB.out.2; omega⟩) HR.out.1).below hbw) (fun k hk => ⟨HR.out.2 k (by have := hbw.size; omega), by have := H1.out.2.right.lt; omega, by have := H1.out.2.lt; omega⟩)
  rw [Nat.mod_eq_of_lt (show b < 16 ^ (2 + 1) by omega)] at hst
  have HST := Lib.hid hst
  obtain ⟨x0, x1, xf0, xf1, xl⟩ := tree_cells H1.out.2
  obtain ⟨y0, y1, yf0, yf1, yl⟩ := tree_cells H1.out.2.right
  clear hst hbw
  go_upto_region 7 with (go_at_call 108; refine HST.out.mono ?_; clear HST; rintro e w3 ⟨v3, rfl, h3⟩; obtain ⟨q3, rfl⟩ := NodeOk.ptr h3.out.2; replace H1 := Lib.hid (And.intro (H1.out.1.below h3.out.1) (And.intro (H1.out.2.below h3.out.1) h3.out.2)); clear h3 x0 x1 xf0 xf1 xl y0 y1 yf0 yf1 yl; obtain ⟨y0, y1, yf0, yf1, yl⟩ := tree_cells H1.out.2.1.right)
  have hs3 := (H1.out.2.1.perm (star_comm3 _ _ _)).setCell (i := 0) (.pointer q3)
  replace H1 := Lib.hid (And.intro (H1.out.1.setCell ⟨B3, 0, none⟩ (.pointer q3)) (And.intro (hs3.perm (show _ = pts B6 _ * (pts B3 (.cells #[.pointer q3, .int .i64 ((cnt m : Int) + 1)] TTree (0, 0)) * old w) from by rw [star_comm3]; rfl)) (NodeOk.keep (fun k hk _ => heap_setCell_other _ ⟨B3, 0, none⟩ _ (.pointer q3) hk.2.1) H1.out.2.2)))
  generalize w3.setCell ⟨B3, 0, none⟩ (.pointer q3) = W4 at H1 ⊢
  clear hs3 y0 y1 yf0 yf1 yl
  obtain ⟨x0, x1, xf0, xf1, xl⟩ := tree_cells H1.out.2.1
  obtain ⟨y0, y1, yf0, yf1, yl⟩ := tree_cells H1.out.2.1.right
  go_wp2
  have h9 := (H1.out.2.1.setCell (i := 0) (.pointer q3)).setCell (i := 1) (.int .i64 ((cnt m : Int) + 1))
  have h8 := (H1.out.1.setCell ⟨B6, 0, none⟩ (.pointer q3)).setCell ⟨B6, 1, none⟩ (.int .i64 ((cnt m : Int) + 1))
  refine bodyPost_ret (v := .agg #[.pointer q3, .int .i64 ((cnt m : Int) + 1)]) (results_cell_row Tryz.results82 _ _ B6 TTree #[.pointer q3, .int .i64 ((cnt m : Int) + 1)] (0, 0) _ rfl h9.block Tryz.underlying112 rfl info_tree) rfl ?_
  refine ⟨q3, by rw [HCS.out]; rfl, h8.below_of (h9.perm (star_assoc _ _ _).symm), NodeOk.weaken (fun k hk _ => hk.1) (NodeOk.keep (fun k hk _ => ?_) H1.out.2.2)⟩
  rw [heap_setCell_other _ ⟨B6, 1, none⟩ _ _ hk.2.2, heap_setCell_other _ ⟨B6, 0, none⟩ _ _ hk.2.2]
 | some x =>
  rw [hmb] at HCS
  by_cases hxc : x = c
  ·subst hxc
   have hxx : (x == x) = true := by simp
   have HM := Lib.hid (upd_self hmb)
   clear hmb HCS
   go_wp2_with (go_at_call 107; refine (HV.out _).mono ?_; rintro e w' ⟨rfl, rfl⟩)
   have h9 := (H1.out.2.setCell (i := 0) (.pointer q)).setCell (i := 1) (.int .i64 (cnt m : Int))
   have h8 := (H1.out.1.setCell ⟨B6, 0, none⟩ (.pointer q)).setCell ⟨B6, 1, none⟩ (.int .i64 (cnt m : Int))
   have hbw := h8.below_of (h9.perm (star_assoc _ _ _).symm)
   refine bodyPost_ret (v := .agg #[.pointer q, .int .i64 (cnt m : Int)]) (results_cell_row Tryz.results82 _ _ B6 TTree #[.pointer q, .int .i64 (cnt m : Int)] (0, 0) _ rfl h9.block Tryz.underlying112 rfl info_tree) rfl ?_
   rw [HM.out]
   exact TSetOut.mk q hbw (HR.out.1.below hbw)
  ·have hxx : (x == c) = false := by simpa using hxc
   clear hmb hxc
   go_upto_region 6 with (go_at_call 107; refine (HV.out _).mono ?_; rintro e w' ⟨rfl, rfl⟩)
   obtain ⟨W2, rfl⟩ : ∃ W2, W2 = w1 := ⟨_, rfl⟩
   clear x0 x1 xf0 xf1 xl y0 y1 yf0 yf1 yl
   have hbw := H1.out.1.below_of (H1.out.2.perm (star_assoc _ _ _).symm)
   have hst := set_any 2 (by omega) b c hb (fun k => ok k ∧ k ≠ B3 ∧ k ≠ B6) (.pointer q) m W2 ((NodeOk.weaken (ok' := fun k => ok k ∧ k ≠ B3 ∧ k ≠ B6) (fun k h1 hk => ⟨h1, by have := HB.out.1; omega, by have := HB.out.2; omega⟩) HR.out.1).below hbw) (fun k hk => ⟨HR.out.2 k (by have := hbw.size; omega), by have := H1.out.2.right.lt; omega, by have := H1.out.2.lt; omega⟩)
   rw [Nat.mod_eq_of_lt (show b < 16 ^ (2 + 1) by omega)] at hst
   have HST := Lib.hid hst
   obtain ⟨x0, x1, xf0, xf1, xl⟩ := tree_cells H1.out.2
   obtain ⟨y0, y1, yf0, yf1, yl⟩ := tree_cells H1.out.2.right
   clear hst hbw
   go_upto_region 7 with (go_at_call 108; refine HST.out.mono ?_; clear HST; rintro e w3 ⟨v3, rfl, h3⟩; obtain ⟨q3, rfl⟩ := NodeOk.ptr h3.out.2; replace H1 := Lib.hid (And.intro (H1.out.1.below h3.out.1) (And.intro (H1.out.2.below h3.out.1) h3.out.2)); clear h3 x0 x1 xf0 xf1 xl y0 y1 yf0 yf1 yl; obtain ⟨y0, y1, yf0, yf1, yl⟩ := tree_cells H1.out.2.1.right)
   have hs3 := (H1.out.2.1.perm (star_comm3 _ _ _)).setCell (i := 0) (.pointer q3)
   replace H1 := Lib.hid (And.intro (H1.out.1.setCell ⟨B3, 0, none⟩ (.pointer q3)) (And.intro (hs3.perm (show _ = pts B6 _ * (pts B3 (.cells #[.pointer q3, .int .i64 (cnt m : Int)] TTree (0, 0)) * old w) from by rw [star_comm3]; rfl)) (NodeOk.keep (fun k hk _ => heap_setCell_other _ ⟨B3, 0, none⟩ _ (.pointer q3) hk.2.1) H1.out.2.2)))
   generalize w3.setCell ⟨B3, 0, none⟩ (.pointer q3) = W4 at H1 ⊢
   clear hs3 y0 y1 yf0 yf1 yl
   obtain ⟨x0, x1, xf0, xf1, xl⟩ := tree_cells H1.out.2.1
   obtain ⟨y0, y1, yf0, yf1, yl⟩ := tree_cells H1.out.2.1.right
   go_wp2
   have h9 := (H1.out.2.1.setCell (i := 0) (.pointer q3)).setCell (i := 1) (.int .i64 (cnt m : Int))
   have h8 := (H1.out.1.setCell ⟨B6, 0, none⟩ (.pointer q3)).setCell ⟨B6, 1, none⟩ (.int .i64 (cnt m : Int))
   refine bodyPost_ret (v := .agg #[.pointer q3, .int .i64 (cnt m : Int)]) (results_cell_row Tryz.results82 _ _ B6 TTree #[.pointer q3, .int .i64 (cnt m : Int)] (0, 0) _ rfl h9.block Tryz.underlying112 rfl info_tree) rfl ?_
   refine ⟨q3, by rw [HCS.out]; simp, h8.below_of (h9.perm (star_assoc _ _ _).symm), NodeOk.weaken (fun k hk _ => hk.1) (NodeOk.keep (fun k hk _ => ?_) H1.out.2.2)⟩
   rw [heap_setCell_other _ ⟨B6, 1, none⟩ _ _ hk.2.2, heap_setCell_other _ ⟨B6, 0, none⟩ _ _ hk.2.2]
end Go.Proofs.YteikbikopgabjaaGreatDoor
end
section
namespace Go.Vol
open Go Go.RowKit Go.Sl
def RowsAt (w : World) (v : Value) (n : Nat) (L : List Value) : Prop := ∃ ao cap, v = .slice ao n cap ∧ (n ≤ cap ∧ (ao = none → cap = 0)) ∧ cap ≤ maxLen ∧ (0 < n → ∃ b : Nat, ao = some ⟨b, 0, none⟩ ∧ b < w.heap.size ∧ ∀ j u, L[j]? = some u → w.cell? ⟨b, j, none⟩ = some u)
theorem RowsAt.keep {w w' : World} {v : Value} {n : Nat} {L : List Value} (hs : w.heap.size ≤ w'.heap.size) (hk : ∀ k, k < w.heap.size → w'.heap[k]? = w.heap[k]?) (h : RowsAt w v n L) : RowsAt w' v n L := by
 obtain ⟨ao, cap, h1, h2, h3, h4⟩ := h
 refine ⟨ao, cap, h1, h2, h3, fun hn => ?_⟩
 obtain ⟨b, h5, h6, h7⟩ := h4 hn
 exact ⟨b, h5, by omega, fun j u hu => by rw [World.cell?_of_block (w := w) (hk b h6)]; exact h7 j u hu⟩
theorem RowsAt.below {w w' : World} {v : Value} {n : Nat} {L : List Value} (h : RowsAt w v n L) (hb : Below w.heap.size w w') : RowsAt w' v n L := h.keep hb.size hb.block
theorem RowsAt.nil (w : World) : RowsAt w (.slice none 0 0) 0 [] := ⟨none, 0, rfl, ⟨Nat.le_refl _, fun _ => rfl⟩, by unfold maxLen; omega, fun h => absurd h (Nat.lt_irrefl _)⟩
section
variable {α : Type} {enc : α → List Value} {k : Nat}
theorem flat_len (hk : ∀ x, (enc x).length = k) : ∀ l : List α, (l.flatMap enc).length = l.length * k
 | [] => by simp
 | x :: r => by rw [List.flatMap_cons, List.length_append, hk, flat_len hk r, List.length_cons, Nat.add_mul, Nat.one_mul, Nat.add_comm]
theorem flat_at (hk : ∀ x, (enc x).length = k) : ∀ (l : List α) (j : Nat) (x : α), l[j]? = some x → ∀ (i : Nat) (u : Value), (enc x)[i]? = some u → (l.flatMap enc)[j * k + i]? = some u
 | [], _, _, h, _, _, _ => by simp at h
 | y :: r, 0, x, h, i, u, hu => by
  simp at h; subst h
  rw [List.flatMap_cons, Nat.zero_mul, Nat.zero_add, List.getElem?_append_left (List.getElem?_eq_some_iff.1 hu).1]; exact hu
 | y :: r, j + 1, x, h, i, u, hu => by
  rw [List.flatMap_cons, List.getElem?_append_right (by rw [hk, Nat.add_mul]; omega), hk, show (j + 1) * k + i - k = j * k + i by rw [Nat.add_mul]; omega]
  exact flat_at hk r j x (by simpa using h) i u hu
end
theorem RowsAt.own {w : World} {T : TypeId} {k n : Nat} {v : Value} {L : List Value} {F : HProp} (h : Sat w (ownAt T k v n L * F)) (_hk : 0 < k) : RowsAt w v n L := by
 rcases ownAt_iff.1 h with ⟨rfl, rfl, rfl, _⟩ | ⟨g, cap, cur, ⟨rfl, h1, h2, h3, h4, h5⟩, hs⟩
 ·exact RowsAt.nil w
 ·refine ⟨_, cap, rfl, ⟨h1, by simp⟩, h2, fun hn => ⟨g, rfl, hs.lt, fun j u hu => ?_⟩⟩
  rw [cells_at hs.block, ← Array.getElem?_toList]
  rw [← h4, List.getElem?_take] at hu
  split at hu
  ·exact hu
  ·cases hu
abbrev ElM := PartM × Value
def volE (x : ElM) : List Value := [.int .i64 x.1.id, .int .i64 x.1.tenant, x.2, .int .i64 (cnt x.1.m : Int)]
def snapE (x : ElM) : List Value := [.int .i64 x.1.id, .int .i64 x.1.tenant, x.2, .int .i64 (cnt x.1.m : Int), .int .i64 x.1.src]
theorem volE_len (x : ElM) : (volE x).length = 4 := rfl
theorem snapE_len (x : ElM) : (snapE x).length = 5 := rfl
def ElsAt (T : TypeId) (w : World) (l : List ElM) : Prop := ∀ x ∈ l, NodeAt T w 2 x.2 x.1.m
theorem ElsAt.below {T : TypeId} {w w' : World} {l : List ElM} (h : ElsAt T w l) (hb : Below w.heap.size w w') : ElsAt T w' l := fun x hx => NodeAt.below hb (h x hx)
structure SpAt (TN TSp : TypeId) (w : World) (p : Nat) (lv ls : List ElM) : Prop where
 sp : ∃ vv vs, w.heap[p]? = some (.cells #[vv, vs] TSp (0, 0)) ∧ RowsAt w vv lv.length (lv.flatMap volE) ∧ RowsAt w vs ls.length (ls.flatMap snapE)
 lv : ElsAt TN w lv
 ls : ElsAt TN w ls
theorem SpAt.below {TN TSp : TypeId} {w w' : World} {p : Nat} {lv ls : List ElM} (h : SpAt TN TSp w p lv ls) (hb : Below w.heap.size w w') : SpAt TN TSp w' p lv ls := by
 obtain ⟨vv, vs, h1, h2, h3⟩ := h.sp
 exact ⟨⟨vv, vs, by rw [hb.block p (Array.getElem?_eq_some_iff.1 h1).1]; exact h1, h2.below hb, h3.below hb⟩, h.lv.below hb, h.ls.below hb⟩
def SpaceAt (TN TSp : TypeId) (w : World) (p : Nat) (S : SpaceM) : Prop := ∃ lv ls, lv.map Prod.fst = S.vols ∧ ls.map Prod.fst = S.snaps ∧ SpAt TN TSp w p lv ls
theorem SpaceAt.below {TN TSp : TypeId} {w w' : World} {p : Nat} {S : SpaceM} (h : SpaceAt TN TSp w p S) (hb : Below w.heap.size w w') : SpaceAt TN TSp w' p S := by
 obtain ⟨lv, ls, h1, h2, h3⟩ := h
 exact ⟨lv, ls, h1, h2, h3.below hb⟩
def atE (l : List ElM) (id : Int) : Nat := l.findIdx fun x => x.1.id == id
theorem atE_map (l : List ElM) (id : Int) : atN (l.map Prod.fst) id = atE l id := by
 unfold atN atE
 rw [List.findIdx_map]; rfl
def atI (l : List ElM) (id : Int) : Int := if atE l id < l.length then (atE l id : Int) else -1
end Go.Vol
end
section
namespace Go.Proofs.YteikbikopgabjaaGreatDoor
open Go.RowKit Go.Vol Go.Sl
abbrev TVol : TypeId := 124
abbrev TSnap : TypeId := 126
theorem number_any (b c d : Value) (n : Int) (w : World) : Calls Tryz.prog 189 #[.agg #[.int .i64 n, b, c, d]] w fun e w' => e = .returned (.int .i64 n) ∧ Below w.heap.size w w' := by
 go_enter Tryz.func189, Tryz.ntmps189
 go_wp2
 go_ret
 exact ⟨rfl, (Below.refl _ _).alloc (Nat.le_refl _) _⟩
structure IxSt (w : World) (l : List ElM) (id : Int) (i : Value) (wr : World) : Prop where
 st : ∃ k : Nat, k ≤ l.length ∧ i = .int .i64 k ∧ Below w.heap.size w wr ∧ ∀ j x, j < k → l[j]? = some x → (x.1.id == id) = false
theorem atI_hit {l : List ElM} {id : Int} {k : Nat} {x : ElM} (hx : l[k]? = some x) (h : (x.1.id == id) = true) (hn : ∀ j y, j < k → l[j]? = some y → (y.1.id == id) = false) : atI l id = (k : Int) := by
 have hlt := (List.getElem?_eq_some_iff.1 hx).1
 have : atE l id = k := by
  unfold atE
  rw [List.findIdx_eq hlt]
  refine ⟨by rw [(List.getElem?_eq_some_iff.1 hx).2]; exact h, fun j hj => ?_⟩
  exact hn j _ hj (List.getElem?_eq_getElem (by omega))
 unfold atI
 rw [this, if_pos hlt]
theorem atI_miss {l : List ElM} {id : Int} (hn : ∀ j y, j < l.length → l[j]? = some y → (y.1.id == id) = false) : atI l id = -1 := by
 have : atE l id = l.length := by
  unfold atE
  rw [List.findIdx_eq_length]
  intro y hy
  obtain ⟨j, hj⟩ := List.mem_iff_getElem?.1 hy
  exact hn j y (List.getElem?_eq_some_iff.1 hj).1 hj
 unfold atI
 rw [this, if_neg (Nat.lt_irrefl _)]
set_option maxHeartbeats 1000000 in
theorem atvol1_any (n t : Int) (c d : Value) (id : Int) (B : Nat) (w : World) (hB : w.cell? ⟨B, 0, none⟩ = some (.int .i64 id)) (hl : B < w.heap.size) :
  Calls Tryz.prog 111 #[.agg #[.int .i64 n, .int .i64 t, c, d], .pointer (some ⟨B, 0, none⟩)] w fun e w' => e = .returned (.bool (n == id)) ∧ Below w.heap.size w w' := by
 go_enter Tryz.func111, Tryz.ntmps111
 go_upto_region 1 with (fail)
 have h0 := (Sat.old w).alloc (.cells #[.int .i64 n, .int .i64 t, c, d] TVol)
 have hS0 : (w.alloc (.cells #[.int .i64 n, .int .i64 t, c, d] TVol)).drew.cell? ⟨w.heap.size, 0, none⟩ = some (.int .i64 n) ∧ (w.alloc (.cells #[.int .i64 n, .int .i64 t, c, d] TVol)).drew.cell? ⟨w.heap.size, 1, none⟩ = some (.int .i64 t) ∧ (w.alloc (.cells #[.int .i64 n, .int .i64 t, c, d] TVol)).drew.cell? ⟨w.heap.size, 2, none⟩ = some c ∧ (w.alloc (.cells #[.int .i64 n, .int .i64 t, c, d] TVol)).drew.cell? ⟨w.heap.size, 3, none⟩ = some d ∧ (w.alloc (.cells #[.int .i64 n, .int .i64 t, c, d] TVol)).drew.cell? ⟨B, 0, none⟩ = some (.int .i64 id) := by
  refine ⟨cells_at h0.block 0, cells_at h0.block 1, cells_at h0.block 2, cells_at h0.block 3, ?_⟩
  show (w.alloc _).cell? _ = _
  rw [World.cell?_alloc_lt _ _ _ hl]; exact hB
 have hwm := (Below.refl w.heap.size w).alloc (Nat.le_refl _) (.cells #[.int .i64 n, .int .i64 t, c, d] TVol)
 have hsz : w.heap.size < (w.alloc (.cells #[.int .i64 n, .int .i64 t, c, d] TVol)).heap.size := by simp
 generalize w.alloc (.cells #[.int .i64 n, .int .i64 t, c, d] TVol) = W at hS0 hwm hsz ⊢
 refine reg_begin (fun w' => w'.cell? ⟨w.heap.size, 0, none⟩ = some (.int .i64 n) ∧ w'.cell? ⟨w.heap.size, 1, none⟩ = some (.int .i64 t) ∧ w'.cell? ⟨w.heap.size, 2, none⟩ = some c ∧ w'.cell? ⟨w.heap.size, 3, none⟩ = some d ∧ w'.cell? ⟨B, 0, none⟩ = some (.int .i64 id)) (by kernel_rfl) ?_
 (apply reg_take 0 rfl rfl (by decide +kernel) rfl); (rintro w' ⟨h0, h1, h2, h3, h4⟩; go_simp; rfl); exact hS0; simp only [zq1, zq2, zq3]
 (apply reg_take 1 rfl rfl (by decide +kernel) rfl); (rintro w' ⟨h0, h1, h2, h3, h4⟩; go_simp; rfl); exact hS0; simp only [zq1, zq2, zq3]
 (apply reg_take 3 rfl rfl (by decide +kernel) rfl); (rintro w' ⟨h0, h1, h2, h3, h4⟩; go_simp; rfl); exact hS0; simp only [zq1, zq2, zq3]
 refine reg_call 2 rfl rfl (by decide +kernel) rfl (f := 189) (args := #[.agg #[.int .i64 n, .int .i64 t, c, d]]) (R := fun v w' => v = .int .i64 n ∧ Below W.heap.size W w') (by go_simp; kernel_rfl) ((number_any _ _ _ n W.drew).mono fun e w' h => ⟨_, h.1, rfl, ((Below.refl _ W).drew).trans h.2⟩) ?_
 rintro _ w3 ⟨rfl, hcc⟩
 obtain ⟨h0, h1, h2, h3, h4⟩ := hS0
 have hk : ∀ o, w3.cell? ⟨w.heap.size, o, none⟩ = W.drew.cell? ⟨w.heap.size, o, none⟩ := fun o => hcc.cell (p := ⟨w.heap.size, o, none⟩) hsz
 have hkB : w3.cell? ⟨B, 0, none⟩ = W.drew.cell? ⟨B, 0, none⟩ := hcc.cell (p := ⟨B, 0, none⟩) (show B < W.heap.size by omega)
 have hS3 : w3.cell? ⟨w.heap.size, 0, none⟩ = some (.int .i64 n) ∧ w3.cell? ⟨w.heap.size, 1, none⟩ = some (.int .i64 t) ∧ w3.cell? ⟨w.heap.size, 2, none⟩ = some c ∧ w3.cell? ⟨w.heap.size, 3, none⟩ = some d ∧ w3.cell? ⟨B, 0, none⟩ = some (.int .i64 id) := ⟨(hk 0).trans h0, (hk 1).trans h1, (hk 2).trans h2, (hk 3).trans h3, hkB.trans h4⟩
 refine ⟨hS3, ?_⟩
 simp only [zq1, zq2, zq3]
 clear hk hkB h0 h1 h2 h3 h4
 (apply reg_take 4 rfl rfl (by decide +kernel) rfl); (rintro w' ⟨h0, h1, h2, h3, h4⟩; go_simp; rfl); exact hS3; simp only [zq1, zq2, zq3]
 (apply reg_take 5 rfl rfl (by decide +kernel) rfl); (rintro w' ⟨h0, h1, h2, h3, h4⟩; go_simp; rfl); exact hS3; simp only [zq1, zq2, zq3]
 refine reg_done (by decide +kernel) ?_
 go_wp2
 go_ret
 exact ⟨rfl, hwm.trans (hcc.mono hwm.size)⟩
set_option maxHeartbeats 1000000 in
theorem ixvol_any (v : Value) (l : List ElM) (id : Int) (B : Nat) (w : World) (hv : RowsAt w v l.length (l.flatMap volE)) (hB : w.cell? ⟨B, 0, none⟩ = some (.int .i64 id)) (hl : B < w.heap.size) :
  Calls Tryz.prog 110 #[v, .func (.func 111) #[] #[.pointer (some ⟨B, 0, none⟩)]] w fun e w' => e = .returned (.int .i64 (atI l id)) ∧ Below w.heap.size w w' := by
 obtain ⟨ao, cap, rfl, hcap, hmax, hrow⟩ := hv
 unfold maxLen at hmax
 have HR := Lib.hid hrow
 have HB := Lib.hid (And.intro hB hl)
 clear hrow hB hl
 go_enter Tryz.func110, Tryz.ntmps110
 go_wp2
 go_loopw [5, 8] (fun _ i wr => IxSt w l id i wr) (fun _ i _ => l.length - (intOf i).toNat)
 case atStart => exact ⟨0, Nat.zero_le _, rfl, Below.refl _ _, fun j x hj => absurd hj (Nat.not_lt_zero _)⟩
 case round =>
  obtain ⟨k, hk, rfl, hbw, hno⟩ := hrel.st
  clear hrel
  have HS := Lib.hid (And.intro hbw hno)
  clear hbw hno
  by_cases hlt : k < l.length
  case neg =>
   have hke : k = l.length := by omega
   subst hke
   have hltd : decide ((l.length : Int) < (l.length : Int)) = false := decide_eq_false (by omega)
   go_wp2
   go_ret
   exact ⟨by rw [atI_miss HS.out.2]; rfl, HS.out.1⟩
  have hltd : decide ((k : Int) < (l.length : Int)) = true := decide_eq_true (by omega)
  obtain ⟨x, hx⟩ : ∃ x, l[k]? = some x := ⟨_, List.getElem?_eq_getElem hlt⟩
  obtain ⟨b, rfl, hb, hcell⟩ := HR.out (by omega)
  have hc := fun i u hu => (HS.out.1.cell (p := ⟨b, k * 4 + i, none⟩) hb).trans (hcell _ _ (flat_at volE_len l k x hx i u hu))
  have c0 := hc 0 _ rfl; have c1 := hc 1 _ rfl; have c2 := hc 2 _ rfl; have c3 := hc 3 _ rfl
  rw [Nat.add_zero] at c0
  have hcall := fun (w' : World) h1 h2 => atvol1_any x.1.id x.1.tenant x.2 (.int .i64 (cnt x.1.m : Int)) id B w' h1 h2
  have HC := Lib.hid (hcall wr ((HS.out.1.cell (p := ⟨B, 0, none⟩) HB.out.2).trans HB.out.1) (Nat.lt_of_lt_of_le HB.out.2 HS.out.1.size))
  have HX := Lib.hid hx
  have hcf : ∀ args w, (callFunc 111 args).run Tryz.prog w = .ok (.enter 111 args) w := enters_of Tryz.func111 (by kernel_rfl) rfl
  clear hc hcall hx hcell
  cases hq : (x.1.id == id) with
  | true =>
   have HQ := Lib.hid hq
   rw [hq] at HC
   clear hq
   go_wp2_with (go_at_call 111; refine HC.out.mono ?_; rintro e w' ⟨rfl, hb'⟩)
   go_ret
   exact ⟨by rw [atI_hit HX.out HQ.out HS.out.2]; rfl, HS.out.1.trans (hb'.mono HS.out.1.size)⟩
  | false =>
   have HQ := Lib.hid hq
   rw [hq] at HC
   clear hq
   go_wp2_with (go_at_call 111; refine HC.out.mono ?_; rintro e w' ⟨rfl, hb'⟩)
   go_roundw
   case rel => exact ⟨⟨k + 1, hlt, rfl, HS.out.1.trans (hb'.mono HS.out.1.size), fun j y hj hy => by
    by_cases hjk : j = k
    ·subst hjk; rw [HX.out] at hy; cases hy; exact HQ.out
    ·exact HS.out.2 j y (by omega) hy⟩⟩
   case measure => simp only [intOf]; omega
theorem atvol_any (v : Value) (l : List ElM) (id : Int) (w : World) (hv : RowsAt w v l.length (l.flatMap volE)) :
  Calls Tryz.prog 86 #[v, .int .i64 id] w fun e w' => e = .returned (.int .i64 (atI l id)) ∧ Below w.heap.size w w' := by
 have hb : Below w.heap.size w (w.alloc (.cells #[.int .i64 id] 3)) := (Below.refl _ _).alloc (Nat.le_refl _) _
 have HC := Lib.hid (ixvol_any v l id w.heap.size (w.alloc (.cells #[.int .i64 id] 3)) (hv.below hb) (cells_at (heap_alloc_new _ _) 0) (by simp))
 have HB := Lib.hid hb
 clear hb hv
 go_enter Tryz.func86, Tryz.ntmps86
 go_wp2_with (go_at_call 110; refine HC.out.mono ?_; rintro e w' ⟨rfl, hb'⟩)
 go_ret
 exact ⟨rfl, HB.out.trans (hb'.mono HB.out.size)⟩
set_option maxHeartbeats 1000000 in
theorem atsnap1_any (n t : Int) (c d : Value) (e : Int) (id : Int) (B : Nat) (w : World) (hB : w.cell? ⟨B, 0, none⟩ = some (.int .i64 id)) (hl : B < w.heap.size) :
  Calls Tryz.prog 113 #[.agg #[.int .i64 n, .int .i64 t, c, d, .int .i64 e], .pointer (some ⟨B, 0, none⟩)] w fun e w' => e = .returned (.bool (n == id)) ∧ Below w.heap.size w w' := by
 go_enter Tryz.func113, Tryz.ntmps113
 go_upto_region 1 with (fail)
 have h0 := (Sat.old w).alloc (.cells #[.int .i64 n, .int .i64 t, c, d, .int .i64 e] TSnap)
 have hS0 : (w.alloc (.cells #[.int .i64 n, .int .i64 t, c, d, .int .i64 e] TSnap)).drew.cell? ⟨w.heap.size, 0, none⟩ = some (.int .i64 n) ∧ (w.alloc (.cells #[.int .i64 n, .int .i64 t, c, d, .int .i64 e] TSnap)).drew.cell? ⟨w.heap.size, 1, none⟩ = some (.int .i64 t) ∧ (w.alloc (.cells #[.int .i64 n, .int .i64 t, c, d, .int .i64 e] TSnap)).drew.cell? ⟨w.heap.size, 2, none⟩ = some c ∧ (w.alloc (.cells #[.int .i64 n, .int .i64 t, c, d, .int .i64 e] TSnap)).drew.cell? ⟨w.heap.size, 3, none⟩ = some d ∧ (w.alloc (.cells #[.int .i64 n, .int .i64 t, c, d, .int .i64 e] TSnap)).drew.cell? ⟨w.heap.size, 4, none⟩ = some (.int .i64 e) ∧ (w.alloc (.cells #[.int .i64 n, .int .i64 t, c, d, .int .i64 e] TSnap)).drew.cell? ⟨B, 0, none⟩ = some (.int .i64 id) := by
  refine ⟨cells_at h0.block 0, cells_at h0.block 1, cells_at h0.block 2, cells_at h0.block 3, cells_at h0.block 4, ?_⟩
  show (w.alloc _).cell? _ = _
  rw [World.cell?_alloc_lt _ _ _ hl]; exact hB
 have hwm := (Below.refl w.heap.size w).alloc (Nat.le_refl _) (.cells #[.int .i64 n, .int .i64 t, c, d, .int .i64 e] TSnap)
 have hsz : w.heap.size < (w.alloc (.cells #[.int .i64 n, .int .i64 t, c, d, .int .i64 e] TSnap)).heap.size := by simp
 generalize w.alloc (.cells #[.int .i64 n, .int .i64 t, c, d, .int .i64 e] TSnap) = W at hS0 hwm hsz ⊢
 refine reg_begin (fun w' => w'.cell? ⟨w.heap.size, 0, none⟩ = some (.int .i64 n) ∧ w'.cell? ⟨w.heap.size, 1, none⟩ = some (.int .i64 t) ∧ w'.cell? ⟨w.heap.size, 2, none⟩ = some c ∧ w'.cell? ⟨w.heap.size, 3, none⟩ = some d ∧ w'.cell? ⟨w.heap.size, 4, none⟩ = some (.int .i64 e) ∧ w'.cell? ⟨B, 0, none⟩ = some (.int .i64 id)) (by kernel_rfl) ?_
 (apply reg_take 0 rfl rfl (by decide +kernel) rfl); (rintro w' ⟨h0, h1, h2, h3, h4, h5⟩; go_simp; rfl); exact hS0; simp only [zq1, zq2, zq3]
 (apply reg_take 1 rfl rfl (by decide +kernel) rfl); (rintro w' ⟨h0, h1, h2, h3, h4, h5⟩; go_simp; rfl); exact hS0; simp only [zq1, zq2, zq3]
 (apply reg_take 3 rfl rfl (by decide +kernel) rfl); (rintro w' ⟨h0, h1, h2, h3, h4, h5⟩; go_simp; rfl); exact hS0; simp only [zq1, zq2, zq3]
 refine reg_call 2 rfl rfl (by decide +kernel) rfl (f := 189) (args := #[.agg #[.int .i64 n, .int .i64 t, c, d]]) (R := fun v w' => v = .int .i64 n ∧ Below W.heap.size W w') (by go_simp; kernel_rfl) ((number_any _ _ _ n W.drew).mono fun e w' h => ⟨_, h.1, rfl, ((Below.refl _ W).drew).trans h.2⟩) ?_
 rintro _ w3 ⟨rfl, hcc⟩
 obtain ⟨h0, h1, h2, h3, h4, h5⟩ := hS0
 have hk : ∀ o, w3.cell? ⟨w.heap.size, o, none⟩ = W.drew.cell? ⟨w.heap.size, o, none⟩ := fun o => hcc.cell (p := ⟨w.heap.size, o, none⟩) hsz
 have hkB : w3.cell? ⟨B, 0, none⟩ = W.drew.cell? ⟨B, 0, none⟩ := hcc.cell (p := ⟨B, 0, none⟩) (show B < W.heap.size by omega)
 have hS3 : w3.cell? ⟨w.heap.size, 0, none⟩ = some (.int .i64 n) ∧ w3.cell? ⟨w.heap.size, 1, none⟩ = some (.int .i64 t) ∧ w3.cell? ⟨w.heap.size, 2, none⟩ = some c ∧ w3.cell? ⟨w.heap.size, 3, none⟩ = some d ∧ w3.cell? ⟨w.heap.size, 4, none⟩ = some (.int .i64 e) ∧ w3.cell? ⟨B, 0, none⟩ = some (.int .i64 id) := ⟨(hk 0).trans h0, (hk 1).trans h1, (hk 2).trans h2, (hk 3).trans h3, (hk 4).trans h4, hkB.trans h5⟩
 refine ⟨hS3, ?_⟩
 simp only [zq1, zq2, zq3]
 clear hk hkB h0 h1 h2 h3 h4 h5
 (apply reg_take 4 rfl rfl (by decide +kernel) rfl); (rintro w' ⟨h0, h1, h2, h3, h4, h5⟩; go_simp; rfl); exact hS3; simp only [zq1, zq2, zq3]
 (apply reg_take 5 rfl rfl (by decide +kernel) rfl); (rintro w' ⟨h0, h1, h2, h3, h4, h5⟩; go_simp; rfl); exact hS3; simp only [zq1, zq2, zq3]
 refine reg_done (by decide +kernel) ?_
 go_wp2
 go_ret
 exact ⟨rfl, hwm.trans (hcc.mono hwm.size)⟩
set_option maxHeartbeats 1000000 in
theorem ixsnap_any (v : Value) (l : List ElM) (id : Int) (B : Nat) (w : World) (hv : RowsAt w v l.length (l.flatMap snapE)) (hB : w.cell? ⟨B, 0, none⟩ = some (.int .i64 id)) (hl : B < w.heap.size) :
  Calls Tryz.prog 112 #[v, .func (.func 113) #[] #[.pointer (some ⟨B, 0, none⟩)]] w fun e w' => e = .returned (.int .i64 (atI l id)) ∧ Below w.heap.size w w' := by
 obtain ⟨ao, cap, rfl, hcap, hmax, hrow⟩ := hv
 unfold maxLen at hmax
 have HR := Lib.hid hrow
 have HB := Lib.hid (And.intro hB hl)
 clear hrow hB hl
 go_enter Tryz.func112, Tryz.ntmps112
 go_wp2
 go_loopw [5, 8] (fun _ i wr => IxSt w l id i wr) (fun _ i _ => l.length - (intOf i).toNat)
 case atStart => exact ⟨0, Nat.zero_le _, rfl, Below.refl _ _, fun j x hj => absurd hj (Nat.not_lt_zero _)⟩
 case round =>
  obtain ⟨k, hk, rfl, hbw, hno⟩ := hrel.st
  clear hrel
  have HS := Lib.hid (And.intro hbw hno)
  clear hbw hno
  by_cases hlt : k < l.length
  case neg =>
   have hke : k = l.length := by omega
   subst hke
   have hltd : decide ((l.length : Int) < (l.length : Int)) = false := decide_eq_false (by omega)
   go_wp2
   go_ret
   exact ⟨by rw [atI_miss HS.out.2]; rfl, HS.out.1⟩
  have hltd : decide ((k : Int) < (l.length : Int)) = true := decide_eq_true (by omega)
  obtain ⟨x, hx⟩ : ∃ x, l[k]? = some x := ⟨_, List.getElem?_eq_getElem hlt⟩
  obtain ⟨b, rfl, hb, hcell⟩ := HR.out (by omega)
  have hc := fun i u hu => (HS.out.1.cell (p := ⟨b, k * 5 + i, none⟩) hb).trans (hcell _ _ (flat_at snapE_len l k x hx i u hu))
  have c0 := hc 0 _ rfl; have c1 := hc 1 _ rfl; have c2 := hc 2 _ rfl; have c3 := hc 3 _ rfl; have c4 := hc 4 _ rfl
  rw [Nat.add_zero] at c0
  have hcall := fun (w' : World) h1 h2 => atsnap1_any x.1.id x.1.tenant x.2 (.int .i64 (cnt x.1.m : Int)) x.1.src id B w' h1 h2
  have HC := Lib.hid (hcall wr ((HS.out.1.cell (p := ⟨B, 0, none⟩) HB.out.2).trans HB.out.1) (Nat.lt_of_lt_of_le HB.out.2 HS.out.1.size))
  have HX := Lib.hid hx
  have hcf : ∀ args w, (callFunc 113 args).run Tryz.prog w = .ok (.enter 113 args) w := enters_of Tryz.func113 (by kernel_rfl) rfl
  clear hc hcall hx hcell
  cases hq : (x.1.id == id) with
  | true =>
   have HQ := Lib.hid hq
   rw [hq] at HC
   clear hq
   go_wp2_with (go_at_call 113; refine HC.out.mono ?_; rintro e w' ⟨rfl, hb'⟩)
   go_ret
   exact ⟨by rw [atI_hit HX.out HQ.out HS.out.2]; rfl, HS.out.1.trans (hb'.mono HS.out.1.size)⟩
  | false =>
   have HQ := Lib.hid hq
   rw [hq] at HC
   clear hq
   go_wp2_with (go_at_call 113; refine HC.out.mono ?_; rintro e w' ⟨rfl, hb'⟩)
   go_roundw
   case rel => exact ⟨⟨k + 1, hlt, rfl, HS.out.1.trans (hb'.mono HS.out.1.size), fun j y hj hy => by
    by_cases hjk : j = k
    ·subst hjk; rw [HX.out] at hy; cases hy; exact HQ.out
    ·exact HS.out.2 j y (by omega) hy⟩⟩
   case measure => simp only [intOf]; omega
theorem atsnap_any (v : Value) (l : List ElM) (id : Int) (w : World) (hv : RowsAt w v l.length (l.flatMap snapE)) :
  Calls Tryz.prog 88 #[v, .int .i64 id] w fun e w' => e = .returned (.int .i64 (atI l id)) ∧ Below w.heap.size w w' := by
 have hb : Below w.heap.size w (w.alloc (.cells #[.int .i64 id] 3)) := (Below.refl _ _).alloc (Nat.le_refl _) _
 have HC := Lib.hid (ixsnap_any v l id w.heap.size (w.alloc (.cells #[.int .i64 id] 3)) (hv.below hb) (cells_at (heap_alloc_new _ _) 0) (by simp))
 have HB := Lib.hid hb
 clear hb hv
 go_enter Tryz.func88, Tryz.ntmps88
 go_wp2_with (go_at_call 112; refine HC.out.mono ?_; rintro e w' ⟨rfl, hb'⟩)
 go_ret
 exact ⟨rfl, HB.out.trans (hb'.mono HB.out.size)⟩
end Go.Proofs.YteikbikopgabjaaGreatDoor
end
