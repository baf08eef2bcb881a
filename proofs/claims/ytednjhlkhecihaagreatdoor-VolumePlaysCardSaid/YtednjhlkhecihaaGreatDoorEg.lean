import Derived.RangeFuncBox
import Derived.Maps.AppendAt
import Derived.Test.YtednjhlkhecihaaGreatDoorWq
import Derived.Test.YtednjhlkhecihaaGreatDoorWm
import Derived.Test.YtednjhlkhecihaaGreatDoorEe
import Derived.Test.YtednjhlkhecihaaGreatDoorRc
/- tree.Diff: the blocks that two trees do not map alike, in order. -/
namespace Go.Proofs.YtednjhlkhecihaaGreatDoor
open Go.RowKit Go.Vol Go.Shelf Go.Sl
attribute [local go_sem] Oper.semAt_some

abbrev encD (x : Nat × Int) : Array Value := #[.int .i64 (x.1 : Int)]
def cellD (x : Nat × Int) : List Value := [.int .i64 (x.1 : Int)]

theorem diffAll_in (F : Fence) (hF : Free F Tryz.prog) (l n₀ N : Nat) (J Jx : List (Nat × Int) → World → Prop) (hG : Grows J) (hn0 : 0 < n₀) (hY : DAsks F l n₀ N J Jx) : DWalks F l n₀ N J Jx 2 :=
  diff2_in F hF l n₀ N J Jx hG hn0 hY (diff1_in F hF l n₀ N J Jx hG hn0 hY (diff0_in F hF l n₀ N J Jx hG hn0 hY))

set_option maxHeartbeats 1000000 in
/-- changes's function. -/
theorem changes1_in (F : Fence) (hF : Free F Tryz.prog) (n l n₀ A B : Nat) (ra rb : Value) (ma mb : MapM) (J Jx : List (Nat × Int) → World → Prop) (hG : Grows J) (hn0 : 0 < n₀)
    (hY : ∀ pre x W, J pre W → pre.length < (items (dm ma mb)).length → YieldAt F (n - 1) Tryz.prog l (encD x) W fun e W' =>
      (e = .returned (.bool true) ∧ J (pre ++ [x]) W' ∧ KeepT TNode n₀ W W') ∨ (e = .returned (.bool false) ∧ Jx (pre ++ [x]) W'))
    (W : World) (hA : W.cell? ⟨A, 0, none⟩ = some ra) (hB : W.cell? ⟨B, 0, none⟩ = some rb) (hna : NodeOk TNode (· < n₀) W 2 ra ma) (hnb : NodeOk TNode (· < n₀) W 2 rb mb) (hT : TabW W) (hsz : n₀ ≤ W.heap.size) (h0 : J [] W) :
    CallsIn F n Tryz.prog 98 #[.func (.yield l) #[] #[], .pointer (some ⟨A, 0, none⟩), .pointer (some ⟨B, 0, none⟩)] W fun e W' => (∃ v, e = .returned v) ∧
      ((∃ ys, ys = items (dm ma mb) ∧ J ys W') ∨ (∃ pre, pre <+: items (dm ma mb) ∧ Jx pre W')) := by
  have hfn := hF.fn
  have hro := hF.round
  have hdd : ∀ k : Nat, (F.depth.isSome = true → 1 ≤ k) := fun k h => by rw [hF.depth] at h; cases h
  have hp := diffAll_in F hF l n₀ (items (dm ma mb)).length J Jx hG hn0 (fun m' pre x W hj hl => YieldAt.anyDepth' hF.depth m' (hY pre x W hj hl)) (n - 1) ra rb ma mb 0 [] W hna hnb hT (by decide) hsz h0 (by rw [show (16 : Nat) ^ (2 + 1) = 4096 from by decide]; simp [items])
  rw [show (16 : Nat) ^ (2 + 1) = 4096 from by decide, List.nil_append, show itemsF 4096 0 (dm ma mb) = items (dm ma mb) from rfl, show ((0 : Nat) : Int) = 0 from rfl, show ((2 : Nat) : Int) = 2 from rfl] at hp
  have HP := Lib.hid hp
  obtain ⟨qa, rfl⟩ := NodeOk.ptr hna
  obtain ⟨qb, rfl⟩ := NodeOk.ptr hnb
  clear hp hna hnb hY hT
  refine callsIn_of_wp Tryz.func98 rfl (hF.fn _) ?_ hro
  simp only [Tryz.ntmps98, List.size_toArray, List.length_cons, List.length_nil, Nat.reduceAdd, Nat.reduceSub, Array.replicate_succ, Array.replicate_zero, List.push_toArray, List.append_toArray, List.nil_append, List.cons_append]
  gi_wp2_with ((try refine ⟨hdd _, ?_⟩); gi_at_call 99; refine HP.out.mono ?_; clear HP; rintro e W1 (⟨rfl, hJ1, _⟩ | ⟨rfl, q, hq, hx⟩))
  · go_end0
    exact ⟨⟨_, rfl⟩, .inl ⟨_, rfl, hJ1⟩⟩
  · go_end0
    exact ⟨⟨_, rfl⟩, .inr ⟨q, hq, by simpa using hx⟩⟩

/-- The two boxes that changes's function holds. -/
def ChAt (w : World) (B : Nat) (ra rb : Value) : Prop := w.cell? ⟨B, 0, none⟩ = some ra ∧ w.cell? ⟨B + 1, 0, none⟩ = some rb ∧ B + 1 < w.heap.size

set_option maxHeartbeats 1000000 in
theorem changes_in (F : Fence) (hF : Free F Tryz.prog) (n : Nat) (qa qb : Option Addr) (ca cb : Int) (w : World) :
    CallsIn F n Tryz.prog 84 #[.agg #[.pointer qa, .int .i64 ca], .agg #[.pointer qb, .int .i64 cb]] w fun e w' => e = .returned (.func (.func 98) #[] #[.pointer (some ⟨w.heap.size, 0, none⟩), .pointer (some ⟨w.heap.size + 1, 0, none⟩)]) ∧
      Below w.heap.size w w' ∧ ChAt w' w.heap.size (.pointer qa) (.pointer qb) := by
  have hfn := hF.fn
  have hro := hF.round
  refine callsIn_of_wp Tryz.func84 rfl (hF.fn _) ?_ hro
  simp only [Tryz.ntmps84, List.size_toArray, List.length_cons, List.length_nil, Nat.reduceAdd, Nat.reduceSub, Array.replicate_succ, Array.replicate_zero, List.push_toArray, List.append_toArray, List.nil_append, List.cons_append]
  gi_wp2
  go_ret
  refine ⟨rfl, ((Below.refl _ _).alloc (Nat.le_refl _) _).alloc (by simp) _, ?_, ?_, by simp⟩
  · exact cellAlloc _ (cellNew w (.pointer qa) [.int .i64 ca] TTree)
  · have h := cellNew (w.alloc (.cells #[.pointer qa, .int .i64 ca] TTree)) (.pointer qb) [.int .i64 cb] TTree
    rw [World.size_alloc] at h
    exact h

theorem changes_stops (F : Fence) (hF : Free F Tryz.prog) (n B n₀ : Nat) (ra rb : Value) (ma mb : MapM) (w : World) (hc : ChAt w B ra rb) (hn₀ : n₀ ≤ w.heap.size) (hn0 : 0 < n₀) (hT : TabW w) (hna : NodeOk TNode (· < n₀) w 2 ra ma) (hnb : NodeOk TNode (· < n₀) w 2 rb mb) :
    SeqStopsK F n Tryz.prog 98 #[.pointer (some ⟨B, 0, none⟩), .pointer (some ⟨B + 1, 0, none⟩)] encD (KeepT TNode n₀) (fun ys => ys = items (dm ma mb)) (fun pre => pre <+: items (dm ma mb)) (items (dm ma mb)).length w := fun l J Jx W hW hab _ hY h0 => by
  obtain ⟨h2, h3, h5⟩ := hc
  exact changes1_in F hF n l n₀ B (B + 1) ra rb ma mb J Jx (fun s X Y hj hg => hab s X Y none hj hg (fun r e => by cases e)) hn0 hY W ((hW.cell (p := ⟨B, 0, none⟩) (by simp only; omega)).trans h2) ((hW.cell (p := ⟨B + 1, 0, none⟩) (by simp only; omega)).trans h3)
    (NodeOk.below hW hna) (NodeOk.below hW hnb) (hT.keep (hW.block 0 (by omega))) (by have := hW.size; omega) h0

theorem keepT_b {T : TypeId} {n₀ : Nat} {w : World} (hn : n₀ ≤ w.heap.size) (W : World) (l : Nat) (o o' : Obj) (hl : w.heap.size ≤ l) (h : W.heap[l]? = some o) (hc : o.isCells = false) (hw : o.isWalk = false) : KeepT T n₀ W (W.putObj l o') :=
  ⟨belowK_b hn W l o o' hl h hc hw, fun k vs fr hk => (grownBy_putObj' W l o').block k (Array.getElem?_eq_some_iff.1 hk).1 (fun e => by
    obtain rfl : k = l := by simpa using e
    rw [hk] at h; cases h; cases hc)⟩
theorem keepT_appended {W w1 : World} {T : TypeId} {n₀ B : Nat} {t e : TypeId} {size : Nat} {v v' : Value} {k m : Nat} {xs ys : List Value} {tmp : Obj}
    (hv : Boxed W B t v) (hte : t ≠ e) (hT1 : T ≠ t) (hT2 : T ≠ e) (hrow : W.ownsRow n₀ e size v k xs) (hn₀ : n₀ ≤ W.heap.size) (hB : n₀ ≤ B)
    (hown' : w1.ownsRow n₀ e size v' m ys) (hgrow : (W.alloc tmp).grownBy w1 v.ownBlock) : KeepT T n₀ W (w1.setCell ⟨B, 0, none⟩ v') := by
  obtain ⟨_, _, _, _, hb⟩ := hv.appended hte hrow hn₀ hB hown' hgrow
  refine ⟨hb, fun i vs fr hi => ?_⟩
  have hlt : i < W.heap.size := (Array.getElem?_eq_some_iff.1 hi).1
  have hiB : i ≠ B := by
    intro e2; subst e2
    have h2 := hi.symm.trans hv
    simp at h2
    exact hT1 h2.2.1
  have hir : some i ≠ v.ownBlock := by
    rcases hrow.2 with ⟨rfl, _⟩ | ⟨g, cap, cur, rfl, _, hgb, _⟩
    · simp [Value.ownBlock]
    · intro e'
      obtain rfl : i = g := by simpa [Value.ownBlock] using e'
      have h2 := hi.symm.trans hgb
      simp at h2
      exact hT2 h2.2.1
  rw [(grownBy_setCell' w1 B v').block i (by have := hgrow.size; simp at this; omega) (by simpa using hiB), hgrow.block i (by simp; omega) hir]
  exact Below.heap_alloc _ _ _ hlt

theorem info_intD : (Tryz.prog.info? 3).map (fun i => (i.zero, i.size, i.bytes)) = some (some (.int .i64 0), 1, 8) := by kernel_rfl

set_option maxRecDepth 100000 in
set_option maxHeartbeats 4000000 in
theorem diff_in (F : Fence) (hF : Free F Tryz.prog) (n : Nat) (hn3 : 3 ≤ n) (na nb : Int) (ra rb : Value) (ma mb : MapM) (w : World) (hna : NodeOk TNode (· < w.heap.size) w 2 ra ma) (hnb : NodeOk TNode (· < w.heap.size) w 2 rb mb) (hT : TabW w) :
    CallsIn F n Tryz.prog 50 #[.agg #[ra, .int .i64 na], .agg #[rb, .int .i64 nb]] w fun e w' => ∃ v, e = .returned v ∧ w'.ownsRow w.heap.size 3 1 v (items (dm ma mb)).length ((items (dm ma mb)).flatMap cellD) ∧ Below w.heap.size w w' := by
  have hfn := hF.fn
  have hro := hF.round
  have hdd : ∀ k : Nat, (F.depth.isSome = true → 1 ≤ k) := fun k h => by rw [hF.depth] at h; cases h
  have h1n : 1 ≤ n := by omega
  have hw0 : 0 < w.heap.size := by
    have := hT 0 (by decide)
    unfold World.cell? at this
    rcases Nat.eq_zero_or_pos w.heap.size with h | h
    · rw [Array.getElem?_eq_none (by simp only; omega)] at this; cases this
    · exact h
  obtain ⟨qa, rfl⟩ := NodeOk.ptr hna
  obtain ⟨qb, rfl⟩ := NodeOk.ptr hnb
  obtain ⟨i0, hi, hz0, hz1, hz2⟩ := info_parts info_intD
  have HAL := Lib.hid (fun W => changes_in F hF (n - 1) qa qb na nb W)
  have HNA := Lib.hid hna
  have HNB := Lib.hid hnb
  have HTT := Lib.hid hT
  have hl := items_len (dm ma mb)
  have hl2 := cnt_le (dm ma mb)
  have HLL := Lib.hid (show (items (dm ma mb)).length ≤ 4096 by omega)
  clear hna hnb hT hl hl2
  refine callsIn_of_wp_marks Tryz.func50 rfl (hF.fn _) ?_ hro
  simp only [Tryz.ntmps50, List.size_toArray, List.length_cons, List.length_nil, Nat.reduceAdd, Nat.reduceSub, Array.replicate_succ, Array.replicate_zero, List.push_toArray, List.append_toArray, List.nil_append, List.cons_append]
  gi_wp2_with ((try refine ⟨hdd _, ?_⟩); gi_at_call 84; refine (HAL.out _).mono ?_; rintro e w' ⟨rfl, hb, hr⟩)
  simp only [World.size_alloc] at hb hr ⊢
  have bO := Boxed.new ((w.alloc (.cells #[.pointer qa, .int .i64 na] TTree)).alloc (.cells #[.pointer qb, .int .i64 nb] TTree)) 39 (.slice none 0 0)
  rw [World.size_alloc, World.size_alloc] at bO
  have hb0 : Below w.heap.size w w' := ((((Below.refl _ w).alloc (Nat.le_refl _) _).alloc (by simp) _).alloc (by simp; omega) _).trans (hb.mono (by omega))
  have bW : Boxed w' (w.heap.size + 1 + 1) 39 (.slice none 0 0) := (hb.block _ (by omega)).trans bO
  have hsz' : w.heap.size + 1 + 1 + 1 ≤ w'.heap.size := by have := hb.size; simp only [World.size_alloc] at this; exact this
  refine wpIn_rangeFunc_ownF hro h1n (gf := 98) (lb := #[.pointer (some ⟨w.heap.size + 1 + 1 + 1, 0, none⟩), .pointer (some ⟨w.heap.size + 1 + 1 + 1 + 1, 0, none⟩)]) rfl (hF.fn _) (enters_of Tryz.func98 (by kernel_rfl) rfl)
    (changes_stops F hF (n - 1) (w.heap.size + 1 + 1 + 1) w.heap.size (.pointer qa) (.pointer qb) ma mb w' hr (by omega) hw0 (HTT.out.keep (hb0.block 0 hw0)) (NodeOk.below hb0 HNA.out) (NodeOk.below hb0 HNB.out)) (fun h k => h.trans k) (keepT_b (by omega)) (Below.refl _ _) (fun _ => rfl)
    (fun pre W => (∃ v, Boxed W (w.heap.size + 1 + 1) 39 v ∧ W.ownsRow w.heap.size 3 1 v pre.length (pre.flatMap cellD) ∧ True) ∧ Below w.heap.size w W)
    (fun _ _ _ => False)
    (OwnFrom.and (Own.from (holdsRow_own w.heap.size (w.heap.size + 1 + 1) 39 3 1 (fun pre : List (Nat × Int) => pre.length) (fun pre => pre.flatMap cellD) (fun _ _ => True)) _) (ownFrom_below (Nat.le_refl _) (by omega)))
    (fun _ _ _ _ _ hs _ _ => hs)
    ⟨⟨_, bW, World.ownsRow_nil _ _ _ _, trivial⟩, hb0⟩
    (fun x => { tmps := #[.agg #[.pointer qa, .int .i64 na], .agg #[.pointer qb, .int .i64 nb], .pointer (some ⟨w.heap.size, 0, none⟩), .pointer (some ⟨w.heap.size + 1, 0, none⟩), .slice none 0 0, .pointer (some ⟨w.heap.size + 1 + 1, 0, none⟩), .int .i64 (x.1 : Int),
      .agg #[.pointer qa, .int .i64 na], .agg #[.pointer qb, .int .i64 nb], .func (.func 98) #[] #[.pointer (some ⟨w.heap.size + 1 + 1 + 1, 0, none⟩), .pointer (some ⟨w.heap.size + 1 + 1 + 1 + 1, 0, none⟩)],
      .int .i64 (x.1 : Int), undef, undef, undef, undef, undef], defers := [] }) ?assign ?body ?done ?stop
  case assign =>
    intro l x W K hK
    gi_wp2
    exact hK
  case body =>
    rintro l pre x W ⟨⟨v, hv, hrow, _⟩, hB⟩ hpl
    have hc := hv.cell
    have hps := HLL.out
    gi_wp2_with (gi_at_builtin; refine wpListIn_append_own _ rfl _ _ 39 rfl w.heap.size 3 i0 (.int .i64 0) 1 8 Tryz.underlying39 hi hz0 hz1 hz2 rfl (by decide) _ _ _ rfl (hrow.alloc _) ⟨W.heap.size, 0, none⟩ 1 1 (cellD x) rfl rfl ?_ (by simp [cellD, Value.oneCell']) (by unfold maxLen; omega) (by omega) (by have := hB.size; simp; omega) ?_)
    · intro j u hu
      match j, hu with
      | 0, hu => rw [Addr.add_mid, cells_at (heap_alloc_new _ _)]; simpa [cellD] using hu
    intro v' w1 hown' hgrow _
    obtain ⟨g', cap', rfl⟩ := ownsRow_succ hown'
    obtain ⟨hv1, hv2, hr2, hk2, hb2⟩ := hv.appended (by decide) hrow hB.size (by omega) hown' hgrow
    have hkt := keepT_appended (T := TNode) hv (by decide) (by decide) (by decide) hrow hB.size (by omega) hown' hgrow
    have hc1 := hv1.cell
    have hf1 := hv1.frozen
    gi_wp2
    exact ⟨hk2, hkt, ⟨_, hv2, by rw [List.flatMap_append, List.length_append]; simpa using hr2, trivial⟩, hB.trans hb2⟩
  case done =>
    rintro D ys W hD rfl ⟨⟨v, hv, hrow, _⟩, hB⟩ hK
    obtain ⟨va, vc, rfl⟩ := ownsRow_slice hrow
    have hc := hv.cell
    have hf := hv.frozen
    gi_wp2
    refine ⟨by simp, .inl ⟨_, _, rfl, run_takeDeferred hK, ?_⟩⟩
    refine ⟨_, ?_, _, rfl, ownsRow_putObj hrow _ hK rfl, hB.trans (belowK_b (w := w) (Nat.le_refl _) _ D _ _ (by omega) hK rfl rfl)⟩
    unfold results
    simp [Tryz.results50, go_sem]
  case stop =>
    rintro D c pre W _ _ h _
    exact h.elim

theorem diff_any (na nb : Int) (ra rb : Value) (ma mb : MapM) (w : World) (hna : NodeAt TNode w 2 ra ma) (hnb : NodeAt TNode w 2 rb mb) (hT : TabW w) :
    Calls Tryz.prog 50 #[.agg #[ra, .int .i64 na], .agg #[rb, .int .i64 nb]] w fun e w' => ∃ v, e = .returned v ∧ Hid (Below w.heap.size w w' ∧ RowsAt w' v (items (dm ma mb)).length ((items (dm ma mb)).flatMap cellD)) :=
  callsIn_wide.1 ((diff_in Fence.wide (free_wide _) 3 (by omega) na nb ra rb ma mb w (NodeOk.weaken (fun j _ hj => hj) hna) (NodeOk.weaken (fun j _ hj => hj) hnb) hT).mono fun e w' ⟨v, h1, h2, h3⟩ => ⟨v, h1, h3, RowsAt_ownsRow h2⟩)
/-- What Diff answers. -/
def diffMM (S : SpaceM) (a b : Int) : List (Nat × Int) × Int :=
  match snapF S a, snapF S b with
  | some x, some y => (items (dm x.m y.m), 0)
  | _, _ => ([], 12)
end Go.Proofs.YtednjhlkhecihaaGreatDoor

/- volume.Space.Diff. -/
namespace Go.Proofs.YtednjhlkhecihaaGreatDoor
open Go.RowKit Go.Vol Go.Sl

theorem snap_at {lS : List ElM} {S : SpaceM} (hls : lS.map Prod.fst = S.snaps) (v : Int) : (snapF S v = none ∧ atI lS v = -1) ∨ ∃ x : ElM, lS[atE lS v]? = some x ∧ snapF S v = some x.1 ∧ atI lS v = (atE lS v : Int) ∧ atE lS v < lS.length := by
  rcases at_cases hls v with ⟨hn, hi⟩ | ⟨x, hx, hsome, hi, hlt, hid, hae⟩
  · exact .inl ⟨by unfold snapF; rw [← atN_find, hn], hi⟩
  · exact .inr ⟨x, hx, by unfold snapF; rw [← atN_find, hsome], hi, hlt⟩

set_option maxRecDepth 20000 in
set_option maxHeartbeats 2000000 in
theorem diffS_any (p : Nat) (S : SpaceM) (a b : Int) (w : World) (hS : SpaceAt TNode TSp w p S) (hT : TabW w) :
    Calls Tryz.prog 13 #[.pointer (some ⟨p, 0, none⟩), .int .i64 a, .int .i64 b] w fun e w' => ∃ r, e = .returned (.tuple #[r, .int .i64 (diffMM S a b).2]) ∧ Hid (Below w.heap.size w w' ∧ RowsAt w' r (diffMM S a b).1.length ((diffMM S a b).1.flatMap cellD)) := by
  have hw0 : 0 < w.heap.size := by
    have := hT 0 (by decide)
    unfold World.cell? at this
    rcases Nat.eq_zero_or_pos w.heap.size with h | h
    · rw [Array.getElem?_eq_none (by simp only; omega)] at this; cases this
    · exact h
  obtain ⟨lv, ls, hlv, hls, ⟨vv, vs, hp, hrv, hrs⟩, hev, hes⟩ := hS
  obtain ⟨so, scap, rfl, hsx⟩ := id hrs
  obtain ⟨-, c1, hpl⟩ := sp_cells hp
  have HAT := Lib.hid (fun (W : World) (v : Int) (h : Below w.heap.size w W) => atsnap_any (.slice so ls.length scap) ls v W (hrs.below h))
  have hcell : ∀ W, Below w.heap.size w W → W.cell? ⟨p, 1, none⟩ = some (.slice so ls.length scap) := fun W h => (h.cell (p := ⟨p, 1, none⟩) hpl).trans c1
  have HCE := Lib.hid hcell
  have h0 : Below w.heap.size w w.drew := ⟨rfl, rfl, rfl, Nat.le_refl _, fun _ _ => rfl⟩
  have HX := Lib.hid (And.intro hw0 (And.intro hT (And.intro hrs (And.intro hes (And.intro hls hsx)))))
  clear hcell hlv hls hp hrv hrs hev hes hsx hT c1 hw0
  go_enter Tryz.func13, Tryz.ntmps13
  go_upto_region 1 with (fail)
  refine reg_begin (fun w' => Below w.heap.size w w') (by kernel_rfl) ?_
  (apply reg_take 0 rfl rfl (by decide +kernel) rfl); (intro w' h; have c1 := HCE.out w' h; go_simp; rfl); exact h0; simp only [List.setIfInBounds_toArray, List.set_cons_succ, List.set_cons_zero]
  (apply reg_take 1 rfl rfl (by decide +kernel) rfl); (intro w' h; have c1 := HCE.out w' h; go_simp; rfl); exact h0; simp only [List.setIfInBounds_toArray, List.set_cons_succ, List.set_cons_zero]
  (apply reg_take 2 rfl rfl (by decide +kernel) rfl); (intro w' h; have c1 := HCE.out w' h; go_simp; rfl); exact h0; simp only [List.setIfInBounds_toArray, List.set_cons_succ, List.set_cons_zero]
  (apply reg_take 3 rfl rfl (by decide +kernel) rfl); (intro w' h; have c1 := HCE.out w' h; go_simp; rfl); exact h0; simp only [List.setIfInBounds_toArray, List.set_cons_succ, List.set_cons_zero]
  (apply reg_take 4 rfl rfl (by decide +kernel) rfl); (intro w' h; have c1 := HCE.out w' h; go_simp; rfl); exact h0; simp only [List.setIfInBounds_toArray, List.set_cons_succ, List.set_cons_zero]
  (apply reg_take 6 rfl rfl (by decide +kernel) rfl); (intro w' h; have c1 := HCE.out w' h; go_simp; rfl); exact h0; simp only [List.setIfInBounds_toArray, List.set_cons_succ, List.set_cons_zero]
  (apply reg_take 7 rfl rfl (by decide +kernel) rfl); (intro w' h; have c1 := HCE.out w' h; go_simp; rfl); exact h0; simp only [List.setIfInBounds_toArray, List.set_cons_succ, List.set_cons_zero]
  (apply reg_take 8 rfl rfl (by decide +kernel) rfl); (intro w' h; have c1 := HCE.out w' h; go_simp; rfl); exact h0; simp only [List.setIfInBounds_toArray, List.set_cons_succ, List.set_cons_zero]
  (apply reg_take 9 rfl rfl (by decide +kernel) rfl); (intro w' h; have c1 := HCE.out w' h; go_simp; rfl); exact h0; simp only [List.setIfInBounds_toArray, List.set_cons_succ, List.set_cons_zero]
  (apply reg_take 10 rfl rfl (by decide +kernel) rfl); (intro w' h; have c1 := HCE.out w' h; go_simp; rfl); exact h0; simp only [List.setIfInBounds_toArray, List.set_cons_succ, List.set_cons_zero]
  refine reg_call 5 rfl rfl (by decide +kernel) rfl (f := 49) (args := #[.slice so ls.length scap, .int .i64 a]) (R := fun v w' => v = .int .i64 (atI ls a) ∧ Below w.heap.size w w') (by kernel_rfl) ((HAT.out w.drew a h0).mono fun e w' h => ⟨_, h.1, rfl, h0.trans (h.2.mono h0.size)⟩) ?_
  rintro _ W2 ⟨rfl, h2⟩
  refine ⟨h2, ?_⟩
  simp only [List.setIfInBounds_toArray, List.set_cons_succ, List.set_cons_zero]
  refine reg_call 11 rfl rfl (by decide +kernel) rfl (f := 49) (args := #[.slice so ls.length scap, .int .i64 b]) (R := fun v w' => v = .int .i64 (atI ls b) ∧ Below w.heap.size w w') (by kernel_rfl) ((HAT.out W2 b h2).mono fun e w' h => ⟨_, h.1, rfl, h2.trans (h.2.mono h2.size)⟩) ?_
  rintro _ W3 ⟨rfl, h3⟩
  refine ⟨h3, ?_⟩
  simp only [List.setIfInBounds_toArray, List.set_cons_succ, List.set_cons_zero]
  (apply reg_take 12 rfl rfl (by decide +kernel) rfl); (intro w' h; go_simp; rfl); exact h3; simp only [List.setIfInBounds_toArray, List.set_cons_succ, List.set_cons_zero]
  (apply reg_take 13 rfl rfl (by decide +kernel) rfl); (intro w' h; go_simp; rfl); exact h3; simp only [List.setIfInBounds_toArray, List.set_cons_succ, List.set_cons_zero]
  refine reg_done (by decide +kernel) ?_
  clear h0 h2
  have H3 := Lib.hid h3
  clear h3
  obtain ⟨hw0, hT, hrs, hes, hls, hsx⟩ := HX.out
  rcases snap_at hls a with ⟨hna, hia⟩ | ⟨x, hx, hsa, hia, hla⟩
  · have HM := Lib.hid (show diffMM S a b = ([], 12) by unfold diffMM; rw [hna])
    rw [hia]
    clear hrs hes hls hsx HX hna hia HAT HCE hT hw0
    go_wp2
    go_ret2
    exact ⟨_, by rw [HM.out]; rfl, H3.out, by rw [HM.out]; exact RowsAt.nil _⟩
  · rcases snap_at hls b with ⟨hnb, hib⟩ | ⟨y, hy, hsb, hib, hlb⟩
    · have HM := Lib.hid (show diffMM S a b = ([], 12) by unfold diffMM; rw [hsa, hnb])
      rw [hia, hib]
      generalize atE ls a = ia at *
      clear hrs hes hls hsx HX hnb hia hib HAT HCE hT hw0 hx hsa
      go_wp2
      go_ret2
      exact ⟨_, by rw [HM.out]; rfl, H3.out, by rw [HM.out]; exact RowsAt.nil _⟩
    · have HM := Lib.hid (show diffMM S a b = (items (dm x.1.m y.1.m), 0) by unfold diffMM; rw [hsa, hsb])
      rw [hia, hib]
      obtain ⟨g, rfl, hgl, -, -, a2, a3, -⟩ := snap_cells hrs hx
      obtain ⟨g', hg', -, -, -, b2, b3, -⟩ := snap_cells hrs hy
      obtain rfl : g = g' := by simpa using hg'
      have hNa := hes x (List.mem_of_getElem? hx)
      have hNb := hes y (List.mem_of_getElem? hy)
      obtain ⟨qa, hqa⟩ := NodeAt.ptr hNa
      obtain ⟨qb, hqb⟩ := NodeAt.ptr hNb
      rw [hqa] at a2 hNa
      rw [hqb] at b2 hNb
      generalize atE ls a = ia at *
      generalize atE ls b = ib at *
      have hd0 : Below w.heap.size w W3.drew := H3.out.trans ⟨rfl, rfl, rfl, Nat.le_refl _, fun _ _ => rfl⟩
      have hlen : ls.length ≤ 9223372036854775807 := by
        obtain ⟨_, _, e, h2, h3, _⟩ := hrs
        unfold maxLen at h3; simp only [Value.slice.injEq] at e; omega
      have HD := Lib.hid (fun (W : World) (h : Below w.heap.size w W) => diff_any (cnt x.1.m : Int) (cnt y.1.m : Int) (.pointer qa) (.pointer qb) x.1.m y.1.m W (NodeAt.below h hNa) (NodeAt.below h hNb) (hT.keep (h.block 0 hw0)))
      have HK := Lib.hid (fun (W : World) (h : Below w.heap.size w W) => And.intro ((h.cell (p := ⟨g, ia * 5 + 2, none⟩) hgl).trans a2) (And.intro ((h.cell (p := ⟨g, ia * 5 + 3, none⟩) hgl).trans a3) (And.intro ((h.cell (p := ⟨g, ib * 5 + 2, none⟩) hgl).trans b2) ((h.cell (p := ⟨g, ib * 5 + 3, none⟩) hgl).trans b3))))
      clear hrs hes hls hsx HX hia hib HAT hT hw0 hx hsa hy hsb a2 a3 b2 b3 hNa hNb hqa hqb hg'
      go_upto_region 4 with (fail)
      refine reg_begin (fun w' => Below w.heap.size w w') (by kernel_rfl) ?_
      (apply reg_take 0 rfl rfl (by decide +kernel) rfl); (intro w' h; have c1 := HCE.out w' h; obtain ⟨k1, k2, k3, k4⟩ := HK.out w' h; go_simp; rfl); exact hd0; simp only [List.setIfInBounds_toArray, List.set_cons_succ, List.set_cons_zero]
      (apply reg_take 1 rfl rfl (by decide +kernel) rfl); (intro w' h; have c1 := HCE.out w' h; obtain ⟨k1, k2, k3, k4⟩ := HK.out w' h; go_simp; rfl); exact hd0; simp only [List.setIfInBounds_toArray, List.set_cons_succ, List.set_cons_zero]
      (apply reg_take 2 rfl rfl (by decide +kernel) rfl); (intro w' h; have c1 := HCE.out w' h; obtain ⟨k1, k2, k3, k4⟩ := HK.out w' h; go_simp; rfl); exact hd0; simp only [List.setIfInBounds_toArray, List.set_cons_succ, List.set_cons_zero]
      (apply reg_take 3 rfl rfl (by decide +kernel) rfl); (intro w' h; have c1 := HCE.out w' h; obtain ⟨k1, k2, k3, k4⟩ := HK.out w' h; go_simp; rfl); exact hd0; simp only [List.setIfInBounds_toArray, List.set_cons_succ, List.set_cons_zero]
      (apply reg_take 4 rfl rfl (by decide +kernel) rfl); (intro w' h; have c1 := HCE.out w' h; obtain ⟨k1, k2, k3, k4⟩ := HK.out w' h; go_simp; rfl); exact hd0; simp only [List.setIfInBounds_toArray, List.set_cons_succ, List.set_cons_zero]
      (apply reg_take 5 rfl rfl (by decide +kernel) rfl); (intro w' h; have c1 := HCE.out w' h; obtain ⟨k1, k2, k3, k4⟩ := HK.out w' h; go_simp; rfl); exact hd0; simp only [List.setIfInBounds_toArray, List.set_cons_succ, List.set_cons_zero]
      (apply reg_take 6 rfl rfl (by decide +kernel) rfl); (intro w' h; have c1 := HCE.out w' h; obtain ⟨k1, k2, k3, k4⟩ := HK.out w' h; go_simp; rfl); exact hd0; simp only [List.setIfInBounds_toArray, List.set_cons_succ, List.set_cons_zero]
      (apply reg_take 7 rfl rfl (by decide +kernel) rfl); (intro w' h; have c1 := HCE.out w' h; obtain ⟨k1, k2, k3, k4⟩ := HK.out w' h; go_simp; rfl); exact hd0; simp only [List.setIfInBounds_toArray, List.set_cons_succ, List.set_cons_zero]
      (apply reg_take 8 rfl rfl (by decide +kernel) rfl); (intro w' h; have c1 := HCE.out w' h; obtain ⟨k1, k2, k3, k4⟩ := HK.out w' h; go_simp; rfl); exact hd0; simp only [List.setIfInBounds_toArray, List.set_cons_succ, List.set_cons_zero]
      (apply reg_take 9 rfl rfl (by decide +kernel) rfl); (intro w' h; have c1 := HCE.out w' h; obtain ⟨k1, k2, k3, k4⟩ := HK.out w' h; go_simp; rfl); exact hd0; simp only [List.setIfInBounds_toArray, List.set_cons_succ, List.set_cons_zero]
      (apply reg_take 10 rfl rfl (by decide +kernel) rfl); (intro w' h; have c1 := HCE.out w' h; obtain ⟨k1, k2, k3, k4⟩ := HK.out w' h; go_simp; rfl); exact hd0; simp only [List.setIfInBounds_toArray, List.set_cons_succ, List.set_cons_zero]
      (apply reg_take 11 rfl rfl (by decide +kernel) rfl); (intro w' h; have c1 := HCE.out w' h; obtain ⟨k1, k2, k3, k4⟩ := HK.out w' h; go_simp; rfl); exact hd0; simp only [List.setIfInBounds_toArray, List.set_cons_succ, List.set_cons_zero]
      (apply reg_take 12 rfl rfl (by decide +kernel) rfl); (intro w' h; have c1 := HCE.out w' h; obtain ⟨k1, k2, k3, k4⟩ := HK.out w' h; go_simp; rfl); exact hd0; simp only [List.setIfInBounds_toArray, List.set_cons_succ, List.set_cons_zero]
      (apply reg_take 13 rfl rfl (by decide +kernel) rfl); (intro w' h; have c1 := HCE.out w' h; obtain ⟨k1, k2, k3, k4⟩ := HK.out w' h; go_simp; rfl); exact hd0; simp only [List.setIfInBounds_toArray, List.set_cons_succ, List.set_cons_zero]
      (apply reg_take 14 rfl rfl (by decide +kernel) rfl); (intro w' h; have c1 := HCE.out w' h; obtain ⟨k1, k2, k3, k4⟩ := HK.out w' h; go_simp; rfl); exact hd0; simp only [List.setIfInBounds_toArray, List.set_cons_succ, List.set_cons_zero]
      (apply reg_take 15 rfl rfl (by decide +kernel) rfl); (intro w' h; have c1 := HCE.out w' h; obtain ⟨k1, k2, k3, k4⟩ := HK.out w' h; go_simp; rfl); exact hd0; simp only [List.setIfInBounds_toArray, List.set_cons_succ, List.set_cons_zero]
      (apply reg_take 16 rfl rfl (by decide +kernel) rfl); (intro w' h; have c1 := HCE.out w' h; obtain ⟨k1, k2, k3, k4⟩ := HK.out w' h; go_simp; rfl); exact hd0; simp only [List.setIfInBounds_toArray, List.set_cons_succ, List.set_cons_zero]
      (apply reg_take 17 rfl rfl (by decide +kernel) rfl); (intro w' h; have c1 := HCE.out w' h; obtain ⟨k1, k2, k3, k4⟩ := HK.out w' h; go_simp; rfl); exact hd0; simp only [List.setIfInBounds_toArray, List.set_cons_succ, List.set_cons_zero]
      refine reg_call 18 rfl rfl (by decide +kernel) rfl (f := 50) (args := #[.agg #[.pointer qa, .int .i64 (cnt x.1.m : Int)], .agg #[.pointer qb, .int .i64 (cnt y.1.m : Int)]]) (R := fun v w' => Hid (Below w.heap.size w w' ∧ RowsAt w' v (items (dm x.1.m y.1.m)).length ((items (dm x.1.m y.1.m)).flatMap cellD))) (by kernel_rfl) ((HD.out W3.drew hd0).mono fun e w' h => by
        obtain ⟨v, rfl, h⟩ := h
        exact ⟨v, rfl, hd0.trans (h.out.1.mono hd0.size), h.out.2⟩) ?_
      rintro v W4 h4
      have h5 := h4.out.1
      refine ⟨h5, ?_⟩
      simp only [List.setIfInBounds_toArray, List.set_cons_succ, List.set_cons_zero]
      (apply reg_take 19 rfl rfl (by decide +kernel) rfl); (intro w' h; go_simp; rfl); exact h5; simp only [List.setIfInBounds_toArray, List.set_cons_succ, List.set_cons_zero]
      (apply reg_take 20 rfl rfl (by decide +kernel) rfl); (intro w' h; go_simp; rfl); exact h5; simp only [List.setIfInBounds_toArray, List.set_cons_succ, List.set_cons_zero]
      refine reg_done (by decide +kernel) ?_
      clear h5
      go_wp2
      go_ret2
      refine ⟨_, by rw [HM.out]; rfl, h4.out.1, ?_⟩
      rw [HM.out]
      exact h4.out.2
end Go.Proofs.YtednjhlkhecihaaGreatDoor
