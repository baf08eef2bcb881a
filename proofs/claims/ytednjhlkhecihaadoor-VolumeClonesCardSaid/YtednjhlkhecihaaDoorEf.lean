/- tree.Diff: the blocks that two trees do not map alike, in order. -/
import Derived.RangeFuncBox
import Derived.Maps.AppendAt
import Derived.Test.YtednjhlkhecihaaDoorWq
import Derived.Test.YtednjhlkhecihaaDoorWm
import Derived.Test.YtednjhlkhecihaaDoorEd
import Derived.Test.YtednjhlkhecihaaDoorEe
namespace Go.Proofs.YtednjhlkhecihaaDoor
open Go.RowKit Go.Vol Go.Shelf Go.Sl
attribute [local go_sem] Oper.semAt_some

abbrev encD (x : Nat × Int) : Array Value := #[.int .i64 (x.1 : Int)]
def cellD (x : Nat × Int) : List Value := [.int .i64 (x.1 : Int)]

theorem diffAll_in (F : Fence) (hF : Free F Tryd.prog) (l n₀ N : Nat) (J Jx : List (Nat × Int) → World → Prop) (hG : Grows J) (hn0 : 0 < n₀) (hY : DAsks F l n₀ N J Jx) : DWalks F l n₀ N J Jx 2 :=
  diff2_in F hF l n₀ N J Jx hG hn0 hY (diff1_in F hF l n₀ N J Jx hG hn0 hY (diff0_in F hF l n₀ N J Jx hG hn0 hY))

set_option maxHeartbeats 1000000 in
/-- changes's function. -/
theorem changes1_in (F : Fence) (hF : Free F Tryd.prog) (n l n₀ A B : Nat) (ra rb : Value) (ma mb : MapM) (J Jx : List (Nat × Int) → World → Prop) (hG : Grows J) (hn0 : 0 < n₀)
    (hY : ∀ pre x W, J pre W → pre.length < (items (dm ma mb)).length → YieldAt F (n - 1) Tryd.prog l (encD x) W fun e W' =>
      (e = .returned (.bool true) ∧ J (pre ++ [x]) W' ∧ KeepT TNode n₀ W W') ∨ (e = .returned (.bool false) ∧ Jx (pre ++ [x]) W'))
    (W : World) (hA : W.cell? ⟨A, 0, none⟩ = some ra) (hB : W.cell? ⟨B, 0, none⟩ = some rb) (hna : NodeOk TNode (· < n₀) W 2 ra ma) (hnb : NodeOk TNode (· < n₀) W 2 rb mb) (hT : TabW W) (hsz : n₀ ≤ W.heap.size) (h0 : J [] W) :
    CallsIn F n Tryd.prog 69 #[.func (.yield l) #[] #[], .pointer (some ⟨A, 0, none⟩), .pointer (some ⟨B, 0, none⟩)] W fun e W' => (∃ v, e = .returned v) ∧
      ((∃ ys, ys = items (dm ma mb) ∧ J ys W') ∨ (∃ pre, pre <+: items (dm ma mb) ∧ Jx pre W')) := by
  have hfn := hF.fn
  have hro := hF.round
  have hdd : ∀ k : Nat, (F.depth.isSome = true → 1 ≤ k) := fun k h => by rw [hF.depth] at h; cases h
  have hp := diffAll_in F hF l n₀ (items (dm ma mb)).length J Jx hG hn0 (fun m' pre x W hj hl => YieldAt.anyDepth' hF.depth m' (hY pre x W hj hl)) (n - 1) ra rb ma mb 0 [] W hna hnb hT (by decide) hsz h0 (by rw [show (16 : Nat) ^ (2 + 1) = 4096 from by decide]; simp [items])
  rw [show (16 : Nat) ^ (2 + 1) = 4096 from by decide, List.nil_append, show itemsF 4096 0 (dm ma mb) = items (dm ma mb) from rfl, show ((0 : Nat) : Int) = 0 from rfl, show ((2 : Nat) : Int) = 2 from rfl] at hp
  have HP := Lib.hid hp
  obtain ⟨qa, rfl⟩ := NodeOk.ptr hna
  obtain ⟨qb, rfl⟩ := NodeOk.ptr hnb
  clear hp hna hnb hY hT
  refine callsIn_of_wp Tryd.func69 rfl (hF.fn _) ?_ hro
  simp only [Tryd.ntmps69, List.size_toArray, List.length_cons, List.length_nil, Nat.reduceAdd, Nat.reduceSub, Array.replicate_succ, Array.replicate_zero, List.push_toArray, List.append_toArray, List.nil_append, List.cons_append]
  gi_wp2_with ((try refine ⟨hdd _, ?_⟩); gi_at_call 70; refine HP.out.mono ?_; clear HP; rintro e W1 (⟨rfl, hJ1, _⟩ | ⟨rfl, q, hq, hx⟩))
  · go_end0
    exact ⟨⟨_, rfl⟩, .inl ⟨_, rfl, hJ1⟩⟩
  · go_end0
    exact ⟨⟨_, rfl⟩, .inr ⟨q, hq, by simpa using hx⟩⟩

/-- The two boxes that changes's function holds. -/
def ChAt (w : World) (B : Nat) (ra rb : Value) : Prop := w.cell? ⟨B, 0, none⟩ = some ra ∧ w.cell? ⟨B + 1, 0, none⟩ = some rb ∧ B + 1 < w.heap.size

set_option maxHeartbeats 1000000 in
theorem changes_in (F : Fence) (hF : Free F Tryd.prog) (n : Nat) (qa qb : Option Addr) (ca cb : Int) (w : World) :
    CallsIn F n Tryd.prog 55 #[.agg #[.pointer qa, .int .i64 ca], .agg #[.pointer qb, .int .i64 cb]] w fun e w' => e = .returned (.func (.func 69) #[] #[.pointer (some ⟨w.heap.size, 0, none⟩), .pointer (some ⟨w.heap.size + 1, 0, none⟩)]) ∧
      Below w.heap.size w w' ∧ ChAt w' w.heap.size (.pointer qa) (.pointer qb) := by
  have hfn := hF.fn
  have hro := hF.round
  refine callsIn_of_wp Tryd.func55 rfl (hF.fn _) ?_ hro
  simp only [Tryd.ntmps55, List.size_toArray, List.length_cons, List.length_nil, Nat.reduceAdd, Nat.reduceSub, Array.replicate_succ, Array.replicate_zero, List.push_toArray, List.append_toArray, List.nil_append, List.cons_append]
  gi_wp2
  go_ret
  refine ⟨rfl, ((Below.refl _ _).alloc (Nat.le_refl _) _).alloc (by simp) _, ?_, ?_, by simp⟩
  · exact cellAlloc _ (cellNew w (.pointer qa) [.int .i64 ca] TTree)
  · have h := cellNew (w.alloc (.cells #[.pointer qa, .int .i64 ca] TTree)) (.pointer qb) [.int .i64 cb] TTree
    rw [World.size_alloc] at h
    exact h

theorem changes_stops (F : Fence) (hF : Free F Tryd.prog) (n B n₀ : Nat) (ra rb : Value) (ma mb : MapM) (w : World) (hc : ChAt w B ra rb) (hn₀ : n₀ ≤ w.heap.size) (hn0 : 0 < n₀) (hT : TabW w) (hna : NodeOk TNode (· < n₀) w 2 ra ma) (hnb : NodeOk TNode (· < n₀) w 2 rb mb) :
    SeqStopsK F n Tryd.prog 69 #[.pointer (some ⟨B, 0, none⟩), .pointer (some ⟨B + 1, 0, none⟩)] encD (KeepT TNode n₀) (fun ys => ys = items (dm ma mb)) (fun pre => pre <+: items (dm ma mb)) (items (dm ma mb)).length w := fun l J Jx W hW hab _ hY h0 => by
  obtain ⟨h2, h3, h5⟩ := hc
  exact changes1_in F hF n l n₀ B (B + 1) ra rb ma mb J Jx (fun s X Y hj hg => hab s X Y none hj hg (fun r e => by cases e)) hn0 hY W ((hW.cell (p := ⟨B, 0, none⟩) (by simp only; omega)).trans h2) ((hW.cell (p := ⟨B + 1, 0, none⟩) (by simp only; omega)).trans h3)
    (NodeOk.below hW hna) (NodeOk.below hW hnb) (hT.keep (hW.block 0 (by omega))) (by have := hW.size; omega) h0

theorem keepT_b {T : TypeId} {n₀ : Nat} {w : World} (hn : n₀ ≤ w.heap.size) (W : World) (l : Nat) (o o' : Obj) (hl : w.heap.size ≤ l) (h : W.heap[l]? = some o) (hc : o.isCells = false) (hw : o.isWalk = false) : KeepT T n₀ W (W.putObj l o') :=
  ⟨belowK_b hn W l o o' hl h hc hw, fun k vs fr hk => (grownBy_putObj' W l o').block k (Array.getElem?_eq_some_iff.1 hk).1 (fun e => by
    obtain rfl : k = l := by simpa using e
    rw [hk] at h; cases h; cases hc)⟩
theorem keepT_appended {W w1 : World} {T : TypeId} {n₀ B : Nat} {t e : TypeId} {size : Nat} {v v' : Value} {k m : Nat} {xs ys : List Value} {tmp : Obj}
    (hv : Boxed W B t v) (hte : t ≠ e) (hT1 : T ≠ t) (hT2 : T ≠ e) (hrow : W.ownsRow n₀ e size v k xs) (hn₀ : n₀ ≤ W.heap.size) (hB : n₀ ≤ B)
    (hown' : w1.ownsRow n₀ e size v' m ys) (hgrow : (W.alloc tmp).grownBy w1 v.ownBlock) : KeepT T n₀ W (w1.setCell ⟨B, 0, none⟩ v') := by
  obtain ⟨_, _, _, _, hb⟩ := hv.appended hte hrow hn₀ hB hown' hgrow
  refine ⟨hb, fun i vs fr hi => ?_⟩
  have hlt : i < W.heap.size := (Array.getElem?_eq_some_iff.1 hi).1
  have hiB : i ≠ B := by
    intro e2; subst e2
    have h2 := hi.symm.trans hv
    simp at h2
    exact hT1 h2.2.1
  have hir : some i ≠ v.ownBlock := by
    rcases hrow.2 with ⟨rfl, _⟩ | ⟨g, cap, cur, rfl, _, hgb, _⟩
    · simp [Value.ownBlock]
    · intro e'
      obtain rfl : i = g := by simpa [Value.ownBlock] using e'
      have h2 := hi.symm.trans hgb
      simp at h2
      exact hT2 h2.2.1
  rw [(grownBy_setCell' w1 B v').block i (by have := hgrow.size; simp at this; omega) (by simpa using hiB), hgrow.block i (by simp; omega) hir]
  exact Below.heap_alloc _ _ _ hlt

theorem info_intD : (Tryd.prog.info? 3).map (fun i => (i.zero, i.size, i.bytes)) = some (some (.int .i64 0), 1, 8) := by kernel_rfl

set_option maxRecDepth 100000 in
set_option maxHeartbeats 4000000 in
theorem diff_in (F : Fence) (hF : Free F Tryd.prog) (n : Nat) (hn3 : 3 ≤ n) (na nb : Int) (ra rb : Value) (ma mb : MapM) (w : World) (hna : NodeOk TNode (· < w.heap.size) w 2 ra ma) (hnb : NodeOk TNode (· < w.heap.size) w 2 rb mb) (hT : TabW w) :
    CallsIn F n Tryd.prog 29 #[.agg #[ra, .int .i64 na], .agg #[rb, .int .i64 nb]] w fun e w' => ∃ v, e = .returned v ∧ w'.ownsRow w.heap.size 3 1 v (items (dm ma mb)).length ((items (dm ma mb)).flatMap cellD) ∧ Below w.heap.size w w' := by
  have hfn := hF.fn
  have hro := hF.round
  have hdd : ∀ k : Nat, (F.depth.isSome = true → 1 ≤ k) := fun k h => by rw [hF.depth] at h; cases h
  have h1n : 1 ≤ n := by omega
  have hw0 : 0 < w.heap.size := by
    have := hT 0 (by decide)
    unfold World.cell? at this
    rcases Nat.eq_zero_or_pos w.heap.size with h | h
    · rw [Array.getElem?_eq_none (by simp only; omega)] at this; cases this
    · exact h
  obtain ⟨qa, rfl⟩ := NodeOk.ptr hna
  obtain ⟨qb, rfl⟩ := NodeOk.ptr hnb
  obtain ⟨i0, hi, hz0, hz1, hz2⟩ := info_parts info_intD
  have HAL := Lib.hid (fun W => changes_in F hF (n - 1) qa qb na nb W)
  have HNA := Lib.hid hna
  have HNB := Lib.hid hnb
  have HTT := Lib.hid hT
  have hl := items_len (dm ma mb)
  have hl2 := cnt_le (dm ma mb)
  have HLL := Lib.hid (show (items (dm ma mb)).length ≤ 4096 by omega)
  clear hna hnb hT hl hl2
  refine callsIn_of_wp_marks Tryd.func29 rfl (hF.fn _) ?_ hro
  simp only [Tryd.ntmps29, List.size_toArray, List.length_cons, List.length_nil, Nat.reduceAdd, Nat.reduceSub, Array.replicate_succ, Array.replicate_zero, List.push_toArray, List.append_toArray, List.nil_append, List.cons_append]
  gi_wp2_with ((try refine ⟨hdd _, ?_⟩); gi_at_call 55; refine (HAL.out _).mono ?_; rintro e w' ⟨rfl, hb, hr⟩)
  simp only [World.size_alloc] at hb hr ⊢
  have bO := Boxed.new ((w.alloc (.cells #[.pointer qa, .int .i64 na] TTree)).alloc (.cells #[.pointer qb, .int .i64 nb] TTree)) 36 (.slice none 0 0)
  rw [World.size_alloc, World.size_alloc] at bO
  have hb0 : Below w.heap.size w w' := ((((Below.refl _ w).alloc (Nat.le_refl _) _).alloc (by simp) _).alloc (by simp; omega) _).trans (hb.mono (by omega))
  have bW : Boxed w' (w.heap.size + 1 + 1) 36 (.slice none 0 0) := (hb.block _ (by omega)).trans bO
  have hsz' : w.heap.size + 1 + 1 + 1 ≤ w'.heap.size := by have := hb.size; simp only [World.size_alloc] at this; exact this
  refine wpIn_rangeFunc_ownF hro h1n (gf := 69) (lb := #[.pointer (some ⟨w.heap.size + 1 + 1 + 1, 0, none⟩), .pointer (some ⟨w.heap.size + 1 + 1 + 1 + 1, 0, none⟩)]) rfl (hF.fn _) (enters_of Tryd.func69 (by kernel_rfl) rfl)
    (changes_stops F hF (n - 1) (w.heap.size + 1 + 1 + 1) w.heap.size (.pointer qa) (.pointer qb) ma mb w' hr (by omega) hw0 (HTT.out.keep (hb0.block 0 hw0)) (NodeOk.below hb0 HNA.out) (NodeOk.below hb0 HNB.out)) (fun h k => h.trans k) (keepT_b (by omega)) (Below.refl _ _) (fun _ => rfl)
    (fun pre W => (∃ v, Boxed W (w.heap.size + 1 + 1) 36 v ∧ W.ownsRow w.heap.size 3 1 v pre.length (pre.flatMap cellD) ∧ True) ∧ Below w.heap.size w W)
    (fun _ _ _ => False)
    (OwnFrom.and (Own.from (holdsRow_own w.heap.size (w.heap.size + 1 + 1) 36 3 1 (fun pre : List (Nat × Int) => pre.length) (fun pre => pre.flatMap cellD) (fun _ _ => True)) _) (ownFrom_below (Nat.le_refl _) (by omega)))
    (fun _ _ _ _ _ hs _ _ => hs)
    ⟨⟨_, bW, World.ownsRow_nil _ _ _ _, trivial⟩, hb0⟩
    (fun x => { tmps := #[.agg #[.pointer qa, .int .i64 na], .agg #[.pointer qb, .int .i64 nb], .pointer (some ⟨w.heap.size, 0, none⟩), .pointer (some ⟨w.heap.size + 1, 0, none⟩), .slice none 0 0, .pointer (some ⟨w.heap.size + 1 + 1, 0, none⟩), .int .i64 (x.1 : Int),
      .agg #[.pointer qa, .int .i64 na], .agg #[.pointer qb, .int .i64 nb], .func (.func 69) #[] #[.pointer (some ⟨w.heap.size + 1 + 1 + 1, 0, none⟩), .pointer (some ⟨w.heap.size + 1 + 1 + 1 + 1, 0, none⟩)],
      .int .i64 (x.1 : Int), undef, undef, undef, undef, undef], defers := [] }) ?assign ?body ?done ?stop
  case assign =>
    intro l x W K hK
    gi_wp2
    exact hK
  case body =>
    rintro l pre x W ⟨⟨v, hv, hrow, _⟩, hB⟩ hpl
    have hc := hv.cell
    have hps := HLL.out
    gi_wp2_with (gi_at_builtin; refine wpListIn_append_own _ rfl _ _ 36 rfl w.heap.size 3 i0 (.int .i64 0) 1 8 Tryd.underlying36 hi hz0 hz1 hz2 rfl (by decide) _ _ _ rfl (hrow.alloc _) ⟨W.heap.size, 0, none⟩ 1 1 (cellD x) rfl rfl ?_ (by simp [cellD, Value.oneCell']) (by unfold maxLen; omega) (by omega) (by have := hB.size; simp; omega) ?_)
    · intro j u hu
      match j, hu with
      | 0, hu => rw [Addr.add_mid, cells_at (heap_alloc_new _ _)]; simpa [cellD] using hu
    intro v' w1 hown' hgrow _
    obtain ⟨g', cap', rfl⟩ := ownsRow_succ hown'
    obtain ⟨hv1, hv2, hr2, hk2, hb2⟩ := hv.appended (by decide) hrow hB.size (by omega) hown' hgrow
    have hkt := keepT_appended (T := TNode) hv (by decide) (by decide) (by decide) hrow hB.size (by omega) hown' hgrow
    have hc1 := hv1.cell
    have hf1 := hv1.frozen
    gi_wp2
    exact ⟨hk2, hkt, ⟨_, hv2, by rw [List.flatMap_append, List.length_append]; simpa using hr2, trivial⟩, hB.trans hb2⟩
  case done =>
    rintro D ys W hD rfl ⟨⟨v, hv, hrow, _⟩, hB⟩ hK
    obtain ⟨va, vc, rfl⟩ := ownsRow_slice hrow
    have hc := hv.cell
    have hf := hv.frozen
    gi_wp2
    refine ⟨by simp, .inl ⟨_, _, rfl, run_takeDeferred hK, ?_⟩⟩
    refine ⟨_, ?_, _, rfl, ownsRow_putObj hrow _ hK rfl, hB.trans (belowK_b (w := w) (Nat.le_refl _) _ D _ _ (by omega) hK rfl rfl)⟩
    unfold results
    simp [Tryd.results29, go_sem]
  case stop =>
    rintro D c pre W _ _ h _
    exact h.elim

theorem diff_any (na nb : Int) (ra rb : Value) (ma mb : MapM) (w : World) (hna : NodeAt TNode w 2 ra ma) (hnb : NodeAt TNode w 2 rb mb) (hT : TabW w) :
    Calls Tryd.prog 29 #[.agg #[ra, .int .i64 na], .agg #[rb, .int .i64 nb]] w fun e w' => ∃ v, e = .returned v ∧ Hid (Below w.heap.size w w' ∧ RowsAt w' v (items (dm ma mb)).length ((items (dm ma mb)).flatMap cellD)) :=
  callsIn_wide.1 ((diff_in Fence.wide (free_wide _) 3 (by omega) na nb ra rb ma mb w (NodeOk.weaken (fun j _ hj => hj) hna) (NodeOk.weaken (fun j _ hj => hj) hnb) hT).mono fun e w' ⟨v, h1, h2, h3⟩ => ⟨v, h1, h3, RowsAt_ownsRow h2⟩)
/-- What Diff answers. -/
def diffMM (S : SpaceM) (a b : Int) : List (Nat × Int) × Int :=
  match snapF S a, snapF S b with
  | some x, some y => (items (dm x.m y.m), 0)
  | _, _ => ([], 12)
end Go.Proofs.YtednjhlkhecihaaDoor
