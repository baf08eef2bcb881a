/- volume.mappings: the mappings of a tree, in the order of the blocks. -/
import Derived.RangeFuncBox
import Derived.Maps.AppendAt
import Derived.Test.YtednjhlkhecihaaGreatDoorWa
namespace Go.Proofs.YtednjhlkhecihaaGreatDoor
open Go.RowKit Go.Vol Go.Shelf Go.Sl
attribute [local go_sem] Oper.semAt_some

theorem RowsAt_ownsRow {w : World} {base : Nat} {e : TypeId} {k n : Nat} {v : Value} {L : List Value} (h : w.ownsRow base e k v n L) : RowsAt w v n L := by
  rcases h.2 with ⟨rfl, rfl⟩ | ⟨g, cap, cur, rfl, _, hg, h1, h2, h3, h4⟩
  · exact ⟨none, 0, rfl, ⟨Nat.le_refl _, fun _ => rfl⟩, by unfold maxLen; omega, fun h => absurd h (Nat.lt_irrefl _)⟩
  · refine ⟨_, cap, rfl, ⟨h1, by simp⟩, h2, fun hn => ⟨g, rfl, (Array.getElem?_eq_some_iff.1 hg).1, fun j u hu => ?_⟩⟩
    unfold World.cell?
    rw [hg]
    rw [← h4, List.getElem?_take] at hu
    split at hu
    · simpa using hu
    · cases hu
theorem ownsRow_slice {w : World} {base : Nat} {e : TypeId} {k n : Nat} {v : Value} {L : List Value} (h : w.ownsRow base e k v n L) : ∃ a c, v = .slice a n c := by
  rcases h.2 with ⟨rfl, rfl⟩ | ⟨g, cap, cur, rfl, _⟩
  · exact ⟨_, _, rfl⟩
  · exact ⟨_, _, rfl⟩
theorem info_map : (Tryz.prog.info? 100).map (fun i => (i.zero, i.size, i.bytes)) = some (some (.agg #[.int .i64 0, .int .i64 0]), 2, 16) := by kernel_rfl

set_option maxRecDepth 100000 in
set_option maxHeartbeats 4000000 in
theorem mappings_in (F : Fence) (hd : F.depth = none) (n : Nat) (hn3 : 3 ≤ n) (h0 : F.fn 78) (h1 : F.fn 100) (h2 : F.fn 85) (h3 : F.fn 53) (h4 : F.fn 101) (hro : F.round = none)
    (nv : Int) (r : Value) (m : MapM) (w : World) (hn : NodeOk TNode (· < w.heap.size) w 2 r m) :
    CallsIn F n Tryz.prog 78 #[.agg #[r, .int .i64 nv]] w fun e w' => ∃ v, e = .returned v ∧ w'.ownsRow w.heap.size 100 2 v (items m).length ((items m).flatMap refE) ∧ Below w.heap.size w w' := by
  have hdd : ∀ k : Nat, (F.depth.isSome = true → 1 ≤ k) := fun k h => by rw [hd] at h; cases h
  have h1n : 1 ≤ n := by omega
  obtain ⟨q, rfl⟩ := NodeOk.ptr hn
  obtain ⟨i0, hi, hz0, hz1, hz2⟩ := info_parts info_map
  have HAL := Lib.hid (fun W => all_in F (n - 1) hdd h3 h2 hro q nv W)
  have HN := Lib.hid hn
  have hl := items_len m
  have hl2 := cnt_le m
  have HLL := Lib.hid (show (items m).length ≤ 4096 by omega)
  clear hn hl hl2
  refine callsIn_of_wp_marks Tryz.func78 rfl h0 ?_ hro
  simp only [Tryz.ntmps78, List.size_toArray, List.length_cons, List.length_nil, Nat.reduceAdd, Nat.reduceSub, Array.replicate_succ, Array.replicate_zero, List.push_toArray, List.append_toArray, List.nil_append, List.cons_append]
  gi_wp2_with ((try refine ⟨hdd _, ?_⟩); gi_at_call 53; refine (HAL.out _).mono ?_; rintro e w' ⟨rfl, hb, hr⟩)
  simp only [World.size_alloc] at hb hr ⊢
  have bO := Boxed.new (w.alloc (.cells #[.pointer q, .int .i64 nv] TTree)) 69 (.slice none 0 0)
  rw [World.size_alloc] at bO
  have hb0 : Below w.heap.size w w' := (((Below.refl _ w).alloc (Nat.le_refl _) _).alloc (by simp) _).trans (hb.mono (by omega))
  have bW : Boxed w' (w.heap.size + 1) 69 (.slice none 0 0) := (hb.block _ (by omega)).trans bO
  have hsz' : w.heap.size + 1 + 1 ≤ w'.heap.size := by have := hb.size; simp only [World.size_alloc] at this; exact this
  refine wpIn_rangeFunc_ownF hro h1n (gf := 100) (lb := #[.pointer (some ⟨w.heap.size + 1 + 1 + 1, 0, none⟩), .pointer (some ⟨w.heap.size + 1 + 1 + 1 + 1, 0, none⟩), .pointer (some ⟨w.heap.size + 1 + 1 + 1 + 2, 0, none⟩)]) rfl h1 (enters_of Tryz.func100 (by kernel_rfl) rfl)
    (all_stops F hd (n - 1) h1 h4 hro (w.heap.size + 1 + 1 + 1) w.heap.size (.pointer q) m w' hr (by omega) (NodeOk.below hb0 HN.out)) belowK_t (belowK_b (by omega)) (Below.refl _ _) (fun _ => rfl)
    (fun pre W => (∃ v, Boxed W (w.heap.size + 1) 69 v ∧ W.ownsRow w.heap.size 100 2 v pre.length (pre.flatMap refE) ∧ True) ∧ Below w.heap.size w W)
    (fun _ _ _ => False)
    (OwnFrom.and (Own.from (holdsRow_own w.heap.size (w.heap.size + 1) 69 100 2 (fun pre : List (Nat × Int) => pre.length) (fun pre => pre.flatMap refE) (fun _ _ => True)) _) (ownFrom_below (Nat.le_refl _) (by omega)))
    (fun _ _ _ _ _ hs _ _ => hs)
    ⟨⟨_, bW, World.ownsRow_nil _ _ _ _, trivial⟩, hb0⟩
    (fun x => { tmps := #[.agg #[.pointer q, .int .i64 nv], .pointer (some ⟨w.heap.size, 0, none⟩), .pointer (some ⟨w.heap.size + 1, 0, none⟩), .int .i64 (x.1 : Int), .int .i64 x.2, .agg #[.pointer q, .int .i64 nv],
      .func (.func 100) #[] #[.pointer (some ⟨w.heap.size + 1 + 1 + 1, 0, none⟩), .pointer (some ⟨w.heap.size + 1 + 1 + 1 + 1, 0, none⟩), .pointer (some ⟨w.heap.size + 1 + 1 + 1 + 2, 0, none⟩)], .int .i64 (x.1 : Int), .int .i64 x.2, undef, undef, undef, undef, undef, undef, undef], defers := [] }) ?assign ?body ?done ?stop
  case assign =>
    intro l x W K hK
    gi_wp2
    exact hK
  case body =>
    rintro l pre x W ⟨⟨v, hv, hrow, _⟩, hB⟩ hpl
    have hc := hv.cell
    have hps := HLL.out
    gi_wp2_with (gi_at_builtin; refine wpListIn_append_own _ rfl _ _ 69 rfl w.heap.size 100 i0 (.agg #[.int .i64 0, .int .i64 0]) 2 16 Tryz.underlying69 hi hz0 hz1 hz2 rfl (by decide) _ _ _ rfl (hrow.alloc _) ⟨W.heap.size, 0, none⟩ 1 1 (refE x) rfl rfl ?_ (by simp [refE, Value.oneCell']) (by unfold maxLen; omega) (by omega) (by have := hB.size; simp; omega) ?_)
    · intro j u hu
      match j, hu with
      | 0, hu => rw [Addr.add_mid, cells_at (heap_alloc_new _ _)]; simpa [refE] using hu
      | 1, hu => rw [Addr.add_mid, cells_at (heap_alloc_new _ _)]; simpa [refE] using hu
    intro v' w1 hown' hgrow _
    obtain ⟨g', cap', rfl⟩ := ownsRow_succ hown'
    obtain ⟨hv1, hv2, hr2, hk2, hb2⟩ := hv.appended (by decide) hrow hB.size (Nat.le_succ _) hown' hgrow
    have hc1 := hv1.cell
    have hf1 := hv1.frozen
    gi_wp2
    exact ⟨hk2, hb2, ⟨_, hv2, by rw [List.flatMap_append, List.length_append]; simpa using hr2, trivial⟩, hB.trans hb2⟩
  case done =>
    rintro D ys W hD rfl ⟨⟨v, hv, hrow, _⟩, hB⟩ hK
    obtain ⟨va, vc, rfl⟩ := ownsRow_slice hrow
    have hc := hv.cell
    have hf := hv.frozen
    gi_wp2
    have hBD : D ≠ w.heap.size + 1 := by omega
    have hK2 : (W.setCell ⟨w.heap.size + 1, 0, none⟩ (.slice va (items m).length vc)).heap[D]? = some (.deferred (some [])) := (heap_setCell_other W ⟨w.heap.size + 1, 0, none⟩ D _ hBD).trans hK
    have hv2 := hv.set (.slice va (items m).length vc)
    have hv3 := hv2.kept (grownBy_putObj' _ D (.deferred none)) (by simp; omega)
    have hB2 := hB.setCell (p := ⟨w.heap.size + 1, 0, none⟩) (Nat.le_succ _) (.slice va (items m).length vc)
    refine ⟨by simp, .inl ⟨_, _, rfl, run_takeDeferred hK2, ?_⟩⟩
    refine ⟨_, ?_, _, rfl, ownsRow_putObj (hrow.kept (grownBy_setCell' W (w.heap.size + 1) _) (.inr (hv.not_row (by decide) hrow).symm)) _ hK2 rfl, hB2.trans (belowK_b (w := w) (Nat.le_refl _) _ D _ _ (by omega) hK2 rfl rfl)⟩
    have hc3 := hv3.cell
    unfold results
    simp [Tryz.results78, go_sem, hc3]
  case stop =>
    rintro D c pre W _ _ h _
    exact h.elim

theorem mappings_any (nv : Int) (r : Value) (m : MapM) (w : World) (hn : NodeAt TNode w 2 r m) :
    Calls Tryz.prog 78 #[.agg #[r, .int .i64 nv]] w fun e w' => ∃ v, e = .returned v ∧ Hid (Below w.heap.size w w' ∧ RowsAt w' v (items m).length ((items m).flatMap refE)) :=
  callsIn_wide.1 ((mappings_in Fence.wide rfl 3 (by omega) trivial trivial trivial trivial trivial rfl nv r m w (NodeOk.weaken (fun j _ hj => hj) hn)).mono fun e w' ⟨v, h1, h2, h3⟩ => ⟨v, h1, h3, RowsAt_ownsRow h2⟩)
end Go.Proofs.YtednjhlkhecihaaGreatDoor
