import Derived.Test.YtnilepaicnnbhaaGreatDoorKc
/- distance.search. Printed by kd.py. -/
namespace Go.GF
open Go Go.RowKit
theorem subsL_map {α β : Type} (g : α → β) : ∀ (l : List α) (k : Nat), subsL (l.map g) k = (subsL l k).map (List.map g)
  | l, 0 => by cases l <;> rfl
  | [], k + 1 => rfl
  | x :: r, k + 1 => by
    show (subsL (r.map g) k).map (g x :: ·) ++ subsL (r.map g) (k + 1) = ((subsL r k).map (x :: ·) ++ subsL r (k + 1)).map (List.map g)
    rw [subsL_map g r k, subsL_map g r (k + 1), List.map_append, List.map_map, List.map_map]
    rfl
theorem firstL_none {α : Type} {dec : List α → Bool} {l : List α} {f : Nat} (hf : f < 4) (h : ∀ s ∈ subsL l (f + 1), dec s = true) : firstL dec l (4 - f) f = firstL dec l (4 - (f + 1)) (f + 1) := by
  rw [show 4 - f = (4 - (f + 1)) + 1 by omega]
  unfold firstL
  have : (subsL l (f + 1)).find? (fun s => !dec s) = none := by
    rw [List.find?_eq_none]
    intro s hs; simp [h s hs]
  rw [this]
  show firstL dec l (4 - (f + 1)) (f + 1) = _
  cases 4 - (f + 1) <;> rfl
theorem firstL_some {α : Type} {dec : List α → Bool} {l : List α} {f i : Nat} (hf : f < 4) {s : List α} (hs : (subsL l (f + 1))[i]? = some s) (hd : dec s = false) (h : ∀ j t, j < i → (subsL l (f + 1))[j]? = some t → dec t = true) : firstL dec l (4 - f) f = (f, s) := by
  rw [show 4 - f = (4 - (f + 1)) + 1 by omega]
  unfold firstL
  have : (subsL l (f + 1)).find? (fun s => !dec s) = some s := by
    rw [List.find?_eq_some_iff_getElem]
    obtain ⟨hi, he⟩ := List.getElem?_eq_some_iff.1 hs
    refine ⟨by simp [hd], i, hi, he, fun j hj => ?_⟩
    have := h j _ hj (List.getElem?_eq_getElem (by omega))
    simp [this]
  rw [this]
end Go.GF
namespace Go.Sl
open Go Go.RowKit
theorem run_loadVar1 {P : Program} {w : World} {ty : TypeId} {ad : Addr} {v : Value} {d : TypeDesc} (hT : P.underlying ty = some d) (hd : d.isRow = false) (hc : w.cell? ad = some v) : (loadVar ty ad).run P w = .ok v w := by
  have hagg : (isAgg ty).run P w = .ok false w := by
    unfold isAgg
    rw [Sem.run_bind, run_underlying hT w]
    cases d <;> simp_all [TypeDesc.isRow]
  simp [loadVar, hagg, hc]
end Go.Sl
namespace Go.Proofs.YtnilepaicnnbhaaGreatDoor
open Go.RowKit Go.GF Go.Sl Go.Shelf
attribute [local go_sem] Oper.semAt_some

theorem OwnB.shape {base : Nat} {w : World} {v : Value} {h : List Bool} (ho : OwnB base w v h) (h0 : 0 < h.length) : ∃ g cap, v = .slice (some ⟨g, 0, none⟩) h.length cap ∧ base ≤ g ∧ g < w.heap.size := by
  rcases ho.2 with ⟨rfl, hn⟩ | ⟨g, cap, cur, rfl, hb, hg, -⟩
  · omega
  · exact ⟨_, _, rfl, hb, (Array.getElem?_eq_some_iff.1 hg).1⟩
theorem OwnB.below {base : Nat} {w w' : World} {v : Value} {h : List Bool} (ho : OwnB base w v h) (hb : Below w.heap.size w w') : OwnB base w' v h := by
  refine ⟨ho.1, ?_⟩
  rcases ho.2 with h0 | ⟨g, cap, cur, hv, hb', hg, h1⟩
  · exact .inl h0
  · exact .inr ⟨g, cap, cur, hv, hb', (hb.block g (Array.getElem?_eq_some_iff.1 hg).1).trans hg, h1⟩
theorem OwnB.cell {base g n cp : Nat} {w : World} {h : List Bool} (ho : OwnB base w (.slice (some ⟨g, 0, none⟩) n cp) h) {p : Nat} (hp : p < h.length) : (∃ u, w.cell? ⟨g, p, none⟩ = some u) ∧ w.frozen? ⟨g, p, none⟩ = false := by
  rcases ho.2 with ⟨h0, -⟩ | ⟨g', cap, cur, hv, hb, hg, h1, h2, h3, h4⟩
  · cases h0
  · simp only [Value.slice.injEq, Option.some.injEq, Addr.mk.injEq] at hv
    obtain ⟨⟨rfl, -⟩, rfl, rfl⟩ := hv
    constructor
    · unfold World.cell?
      simp only [hg]
      exact ⟨_, Array.getElem?_eq_getElem (by omega)⟩
    · unfold World.frozen?; simp [hg]
theorem OwnB.set {base g n cp : Nat} {w : World} {h : List Bool} (ho : OwnB base w (.slice (some ⟨g, 0, none⟩) n cp) h) (p : Nat) (x : Bool) : OwnB base (w.setCell ⟨g, p, none⟩ (.bool x)) (.slice (some ⟨g, 0, none⟩) n cp) (h.set p x) := by
  have hl : (boolsV (h.set p x)) = (boolsV h).set p (.bool x) := by unfold boolsV; rw [List.map_set]
  rcases ho.2 with ⟨h0, -⟩ | ⟨g', cap, cur, hv, hb, hg, h1, h2, h3, h4⟩
  · cases h0
  · simp only [Value.slice.injEq, Option.some.injEq, Addr.mk.injEq] at hv
    obtain ⟨⟨rfl, -⟩, rfl, rfl⟩ := hv
    refine ⟨by rw [boolsV_len, Nat.mul_one], .inr ⟨g, cp, cur.setIfInBounds p (.bool x), by rw [List.length_set], hb, heap_setCell_same w g p cur TB _ hg, by rw [List.length_set]; exact h1, h2, by simpa using h3, ?_⟩⟩
    rw [hl, List.length_set, ← h4, Array.toList_setIfInBounds, List.take_set]
theorem KeepsFrom.of_below {B : Nat} {W W' : World} (h : Below W.heap.size W W') : KeepsFrom B W W' := ⟨h.size, fun k _ _ hk _ => (h.block k (Array.getElem?_eq_some_iff.1 hk).1).trans hk⟩
theorem row_kpb {A C : World} {v : Value} {L : List Value} (h : RowI A v L) (hk : KpB 0 A C) : RowI C v L := by
  obtain ⟨ao, cap, h1, h2, h3, h4⟩ := h
  refine ⟨ao, cap, h1, h2, h3, fun hn => ?_⟩
  obtain ⟨b, off, e, hl, hc⟩ := h4 hn
  exact ⟨b, off, e, Nat.lt_of_lt_of_le hl hk.bl.size, fun j u hu => hk.cell (hc j u hu)⟩
theorem minusL_take {h : List Bool} {t : List Nat} {k u : Nat} (hu : t[k]? = some u) : minusL h (t.take (k + 1)) = (minusL h (t.take k)).set u false := by
  rw [List.take_add_one, hu]
  unfold minusL
  rw [List.foldl_append]; rfl
/-- Between two rounds of the inner loop. -/
structure SrL (W : World) (rest : Value) (h : List Bool) (t : List Nat) (v : Value) (wr : World) : Prop where
  st : ∃ k : Nat, k ≤ t.length ∧ v = .int .i64 (k : Int) ∧ OwnB W.heap.size wr rest (minusL h (t.take k)) ∧ Below W.heap.size W wr
/-- The caller's boxes: the code, the row of what is there, the two results. -/
structure SrE (w0 : World) (g2 g3 g4 g5 : Nat) (cv0 : Array Value) (hv : Value) (wr : World) : Prop where
  b2 : Box wr g2 cv0
  b3 : Box wr g3 #[hv]
  b4 : Box wr g4 #[.int .i64 0]
  b5 : Box wr g5 #[.slice none 0 0]
  bl : Below w0.heap.size w0 wr
  lo : w0.heap.size ≤ g2 ∧ w0.heap.size ≤ g3 ∧ w0.heap.size ≤ g4 ∧ w0.heap.size ≤ g5 ∧ g4 ≠ g5 ∧ g4 ≠ g2 ∧ g4 ≠ g3
theorem SrE.keep {w0 : World} {g2 g3 g4 g5 B : Nat} {cv0 : Array Value} {hv : Value} {A C : World} (h : SrE w0 g2 g3 g4 g5 cv0 hv A) (hb : Below B A C) (hB : g2 < B ∧ g3 < B ∧ g4 < B ∧ g5 < B ∧ w0.heap.size ≤ B) : SrE w0 g2 g3 g4 g5 cv0 hv C :=
  ⟨h.b2.keep (hb.block _ hB.1), h.b3.keep (hb.block _ hB.2.1), h.b4.keep (hb.block _ hB.2.2.1), h.b5.keep (hb.block _ hB.2.2.2.1), h.bl.trans (hb.mono hB.2.2.2.2), h.lo⟩
theorem SrE.lt {w0 : World} {g2 g3 g4 g5 : Nat} {cv0 : Array Value} {hv : Value} {A : World} (h : SrE w0 g2 g3 g4 g5 cv0 hv A) : g2 < A.heap.size ∧ g3 < A.heap.size ∧ g4 < A.heap.size ∧ g5 < A.heap.size ∧ w0.heap.size ≤ A.heap.size := ⟨h.b2.lt, h.b3.lt, h.b4.lt, h.b5.lt, h.bl.size⟩
theorem SrE.below {w0 : World} {g2 g3 g4 g5 : Nat} {cv0 : Array Value} {hv : Value} {A C : World} (h : SrE w0 g2 g3 g4 g5 cv0 hv A) (hb : Below A.heap.size A C) : SrE w0 g2 g3 g4 g5 cv0 hv C := h.keep hb h.lt
theorem sr_start (w : World) (cv0 : Array Value) (hv : Value) (t1 t2 t3 t4 : TypeId) :
    SrE w w.heap.size (w.heap.size + 1) (w.heap.size + 1 + 1) (w.heap.size + 1 + 1 + 1) cv0 hv ((((w.alloc (.cells cv0 t1)).alloc (.cells #[hv] t2)).alloc (.cells #[.int .i64 0] t3)).alloc (.cells #[.slice none 0 0] t4)) := by
  have e1 := World.alloc_heap_new w (.cells cv0 t1)
  have e2 := World.alloc_heap_new (w.alloc (.cells cv0 t1)) (.cells #[hv] t2)
  have e3 := World.alloc_heap_new ((w.alloc (.cells cv0 t1)).alloc (.cells #[hv] t2)) (.cells #[.int .i64 0] t3)
  have e4 := World.alloc_heap_new (((w.alloc (.cells cv0 t1)).alloc (.cells #[hv] t2)).alloc (.cells #[.int .i64 0] t3)) (.cells #[.slice none 0 0] t4)
  simp only [World.size_alloc] at e2 e3 e4
  have b1 := al_below w (.cells cv0 t1)
  have b2 := al_below (w.alloc (.cells cv0 t1)) (.cells #[hv] t2)
  have b3 := al_below ((w.alloc (.cells cv0 t1)).alloc (.cells #[hv] t2)) (.cells #[.int .i64 0] t3)
  have b4 := al_below (((w.alloc (.cells cv0 t1)).alloc (.cells #[hv] t2)).alloc (.cells #[.int .i64 0] t3)) (.cells #[.slice none 0 0] t4)
  simp only [World.size_alloc] at b2 b3 b4
  exact ⟨⟨t1, (b4.block _ (by omega)).trans ((b3.block _ (by omega)).trans ((b2.block _ (by omega)).trans e1))⟩, ⟨t2, (b4.block _ (by omega)).trans ((b3.block _ (by omega)).trans e2)⟩, ⟨t3, (b4.block _ (by omega)).trans e3⟩, ⟨t4, e4⟩,
    b1.trans ((b2.mono (by omega)).trans ((b3.mono (by omega)).trans (b4.mono (by omega)))), by omega, by omega, by omega, by omega, by omega, by omega, by omega⟩
theorem SrE.res {w0 : World} {g2 g3 g4 g5 : Nat} {cv0 : Array Value} {hv : Value} {A : World} (h : SrE w0 g2 g3 g4 g5 cv0 hv A) : A.cell? ⟨g4, 0, none⟩ = some (.int .i64 0) ∧ A.cell? ⟨g5, 0, none⟩ = some (.slice none 0 0) ∧ A.frozen? ⟨g4, 0, none⟩ = false ∧ A.frozen? ⟨g5, 0, none⟩ = false ∧ A.cell? ⟨g3, 0, none⟩ = some hv :=
  ⟨h.b4.cell 0, h.b5.cell 0, h.b4.free 0, h.b5.free 0, h.b3.cell 0⟩
/-- The results are laid. -/
structure SrD (w0 : World) (g4 g5 : Nat) (z : Int) (v : Value) (wr : World) : Prop where
  c4 : wr.cell? ⟨g4, 0, none⟩ = some (.int .i64 z)
  c5 : wr.cell? ⟨g5, 0, none⟩ = some v
  bl : Below w0.heap.size w0 wr
theorem SrD.keep {w0 : World} {g4 g5 B : Nat} {z : Int} {v : Value} {A C : World} (h : SrD w0 g4 g5 z v A) (hk : KpB B A C) (hB : w0.heap.size ≤ B) : SrD w0 g4 g5 z v C := ⟨hk.cell h.c4, hk.cell h.c5, h.bl.trans (hk.bl.mono hB)⟩
theorem SrE.set {w0 : World} {g2 g3 g4 g5 : Nat} {cv0 : Array Value} {hv : Value} {A : World} (h : SrE w0 g2 g3 g4 g5 cv0 hv A) (z : Int) (v : Value) :
    SrD w0 g4 g5 z v ((A.setCell ⟨g4, 0, none⟩ (.int .i64 z)).setCell ⟨g5, 0, none⟩ v) ∧ ∀ k, k ≠ g4 → k ≠ g5 → ((A.setCell ⟨g4, 0, none⟩ (.int .i64 z)).setCell ⟨g5, 0, none⟩ v).heap[k]? = A.heap[k]? := by
  obtain ⟨l1, l2, l3, l4, l5, -, -⟩ := h.lo
  obtain ⟨t4, h4⟩ := h.b4
  obtain ⟨t5, h5⟩ := h.b5
  have s4 := heap_setCell_same A g4 0 _ t4 (.int .i64 z) h4
  have s5 : (A.setCell ⟨g4, 0, none⟩ (.int .i64 z)).heap[g5]? = _ := (heap_setCell_other _ _ _ _ (Ne.symm l5)).trans h5
  have r5 := heap_setCell_same (A.setCell ⟨g4, 0, none⟩ (.int .i64 z)) g5 0 _ t5 v s5
  have r4 : ((A.setCell ⟨g4, 0, none⟩ (.int .i64 z)).setCell ⟨g5, 0, none⟩ v).heap[g4]? = _ := (heap_setCell_other _ _ _ _ l5).trans s4
  refine ⟨⟨by unfold World.cell?; simp only [r4]; rfl, by unfold World.cell?; simp only [r5]; rfl, ?_⟩, fun k k4 k5 => (heap_setCell_other _ _ _ _ k5).trans (heap_setCell_other _ _ _ _ k4)⟩
  exact h.bl.trans (((Below.refl w0.heap.size A).setCell (p := ⟨g4, 0, none⟩) l3 _).setCell (p := ⟨g5, 0, none⟩) l4 _)
/-- What search returns, behind its marks. -/
theorem sr_leave {w0 : World} {g4 g5 : Nat} {z : Int} {v : Value} {wr : World} {Ds : List Nat} {tmps : Array Value} {F : Fence} {n : Nat} {R : Ending → World → Prop} (hd : SrD w0 g4 g5 z v wr) (hm : Ds.Nodup ∧ ∀ D ∈ Ds, w0.heap.size ≤ D ∧ wr.heap[D]? = some (.deferred (some [])))
    (h4 : tmps.getD 4 undef = .pointer (some ⟨g4, 0, none⟩)) (h5 : tmps.getD 5 undef = .pointer (some ⟨g5, 0, none⟩)) (hR : ∀ w', KpB w0.heap.size wr w' → R (.returned (.tuple #[.int .i64 z, v])) w') :
    LeavesInM F n Tryz.prog Tryz.f21 tmps R (Ds.map fun D => ({ target := .collected D, args := #[] } : Deferred)) .returning wr :=
  leaves_marks Ds wr hm.1 hm.2 fun w' hw' => ⟨_, resultsJ Tryz.results21 (ResJ.cell h4 (run_loadVar1 Tryz.underlying3 rfl (hd.keep hw' (Nat.le_refl _)).c4)) (ResJ.cell h5 (run_loadVar1 Tryz.underlying26 rfl (hd.keep hw' (Nat.le_refl _)).c5)), hR w' hw'⟩
/-- Marks of ranges over functions. -/
def MarksAt (B : Nat) (Ds : List Nat) (w : World) : Prop := Ds.Nodup ∧ ∀ D ∈ Ds, B ≤ D ∧ w.heap[D]? = some (.deferred (some []))
theorem MarksAt.below {B : Nat} {Ds : List Nat} {A C : World} (h : MarksAt B Ds A) (hb : Below A.heap.size A C) : MarksAt B Ds C :=
  ⟨h.1, fun D hD => ⟨(h.2 D hD).1, (hb.block D (Array.getElem?_eq_some_iff.1 (h.2 D hD).2).1).trans (h.2 D hD).2⟩⟩
/-- Between two rounds of the range: the first i sets are not fatal. -/
structure SrI (w5 : World) (dec : List Nat → Bool) (us : List Nat) (f i : Nat) (W : World) : Prop where
  bl : Below w5.heap.size w5 W
  ok : ∀ (j : Nat) (t : List Nat), j < i → (subsL us (f + 1))[j]? = some t → dec t = true
structure SrX (w0 w5 : World) (g4 g5 : Nat) (dec : List Nat → Bool) (us : List Nat) (f : Nat) (c : Code) (W : World) : Prop where
  ret : c = .ret
  kp : ∀ k, k < w5.heap.size → k ≠ g4 → k ≠ g5 → W.heap[k]? = w5.heap[k]?
  st : ∃ (i : Nat) (t : List Nat) (sv : Value), (subsL us (f + 1))[i]? = some t ∧ dec t = false ∧ (∀ (j : Nat) (t : List Nat), j < i → (subsL us (f + 1))[j]? = some t → dec t = true) ∧ SrD w0 g4 g5 (f : Int) sv W ∧ RowI W sv (intsV (natsI t))
/-- Between two rounds: no set of f elements or less is fatal. -/
structure SrO (w0 : World) (g2 g3 g4 g5 : Nat) (cv0 : Array Value) (hv uv : Value) (dec : List Nat → Bool) (us : List Nat) (a : Act) (wr : World) : Prop where
  st : ∃ (f : Nat) (Ds : List Nat) (u7 u8 u9 u10 u11 u12 u13 u14 u15 u16 u17 u19 u20 u21 u22 u23 u24 u25 u26 u27 u28 u29 u30 u31 u32 u33 u34 u35 u36 u37 u38 u39 u40 u41 u42 u43 u44 : Value), f ≤ 4 ∧ a = { tmps := #[.agg cv0, hv, .pointer (some ⟨g2, 0, none⟩), .pointer (some ⟨g3, 0, none⟩), .pointer (some ⟨g4, 0, none⟩), .pointer (some ⟨g5, 0, none⟩), uv, u7, u8, u9, u10, u11, u12, u13, u14, u15, u16, u17, .int .i64 (f : Int), u19, u20, u21, u22, u23, u24, u25, u26, u27, u28, u29, u30, u31, u32, u33, u34, u35, u36, u37, u38, u39, u40, u41, u42, u43, u44], defers := Ds.map fun D => ({ target := .collected D, args := #[] } : Deferred) } ∧
    SrE w0 g2 g3 g4 g5 cv0 hv wr ∧ RowI wr uv (intsV (natsI us)) ∧ firstL dec us 4 0 = firstL dec us (4 - f) f ∧ MarksAt w0.heap.size Ds wr
set_option maxRecDepth 100000 in
set_option maxHeartbeats 8000000 in
theorem search_in (cv : Array Value) (c : CodeM) (hv : Value) (h : List Bool) (hl : h.length = c.n) (w : World) (hT : TabF w) (hc : CodeAt w cv c) (hr : RowI w hv (boolsV h)) :
    CallsIn Fence.wide 8 Tryz.prog 21 #[.agg cv, hv] w fun e w' => ∃ v, e = .returned (.tuple #[.int .i64 (searchM c h).1, v]) ∧ RowI w' v (intsV (natsI (searchM c h).2)) ∧ Below w.heap.size w w' := by
  have hF := free_wide Tryz.prog
  have hfn : ∀ f, Fence.wide.fn f := hF.fn
  have hro := hF.round
  have hdd : ∀ k : Nat, (Fence.wide.depth.isSome = true → 1 ≤ k) := fun k h => by rw [hF.depth] at h; cases h
  have HDC := Lib.hid (fun h' (hl' : h'.length = c.n) v W (hb : Below w.heap.size w W) (hv : RowI W v (boolsV h')) => decodable_any cv c v h' hl' W (hT.below hb) (hc.below hb) hv)
  have HR := Lib.hid hr
  have HC := Lib.hid hc
  have HL := Lib.hid (And.intro hl hc.n32)
  obtain ⟨⟨nm, pv, dom, rfl, hp⟩, hok, h32, hval⟩ := hc
  obtain ⟨ao, cap, rfl, -, -, -⟩ := hr
  rw [boolsV_len] at *
  clear hp hval hT hl h32 hok
  have HST := Lib.hid (sr_start w (codeV nm (c.m : Int) (c.k : Int) pv dom) (.slice ao h.length cap))
  unfold codeV at *
  refine callsIn_of_wp_marks Tryz.func21 rfl (hfn _) ?_ hro
  simp only [Tryz.ntmps21, List.size_toArray, List.length_cons, List.length_nil, Nat.reduceAdd, Nat.reduceSub, Array.replicate_succ, Array.replicate_zero, List.push_toArray, List.append_toArray, List.nil_append, List.cons_append]
  gi_upto_region 1 with (fail)
  have HE := Lib.hid (HST.out 24 25 TI 26)
  clear HST
  obtain ⟨W4, hW4⟩ : ∃ W4, (((w.alloc (.cells #[.string nm, .int .i64 (c.m : Int), .int .i64 (c.k : Int), pv, .int .i64 dom] 24)).alloc (.cells #[.slice ao h.length cap] 25)).alloc (.cells #[.int .i64 0] TI)).alloc (.cells #[.slice none 0 0] 26) = W4 := ⟨_, rfl⟩
  rw [hW4] at HE ⊢
  clear hW4
  generalize w.heap.size + 1 + 1 + 1 = g5 at HE ⊢
  generalize w.heap.size + 1 + 1 = g4 at HE ⊢
  generalize w.heap.size + 1 = g3 at HE ⊢
  obtain ⟨g2, hg2⟩ : ∃ g2, w.heap.size = g2 := ⟨_, rfl⟩
  rw [hg2] at HE ⊢
  clear hg2
  obtain ⟨c0, c1, c2, c3, c4⟩ := HE.out.b2.code
  obtain ⟨-, -, -, -, d0⟩ := HE.out.res
  have hg45 : g4 ≠ g5 := HE.out.lo.2.2.2.2.1
  cases hdec : decL c h with
  | false =>
    have HS := Lib.hid (show searchM c h = (-1, []) by unfold searchM; rw [if_pos hdec])
    gi_wp2_with ((try refine ⟨hdd _, ?_⟩); gi_at_call 31; refine (hF.calls _ _ _ _ _ (HDC.out h HL.out.1 (.slice ao h.length cap) W4 HE.out.bl (HR.out.below HE.out.bl))).mono ?_; rintro e w1 ⟨rfl, h1⟩; rw [hdec]; have HE1 := Lib.hid (HE.out.below h1); obtain ⟨r1, r2, r3, r4, -⟩ := HE1.out.res; have hl4 := HE1.out.lt.2.2.1; have hl5 := HE1.out.lt.2.2.2.1)
    obtain ⟨hD, -⟩ := HE1.out.set (-1) (.slice none 0 0)
    refine sr_leave (Ds := []) hD ⟨List.nodup_nil, by simp⟩ rfl rfl fun w' hw' => ?_
    rw [HS.out]
    exact ⟨_, rfl, ⟨none, 0, rfl, Nat.le_refl _, by unfold maxLen; omega, fun hh => absurd hh (by simp [intsV, natsI])⟩, (hD.keep hw' (Nat.le_refl _)).bl⟩
  | true =>
    have HS := Lib.hid (show searchM c h = (((firstL (fun s => decL c (minusL h s)) (units h) 4 0).1 : Int), (firstL (fun s => decL c (minusL h s)) (units h) 4 0).2) by unfold searchM; rw [if_neg (by rw [hdec]; simp)])
    gi_wp2_with first
      | ((try refine ⟨hdd _, ?_⟩); gi_at_call 31; refine (hF.calls _ _ _ _ _ (HDC.out h HL.out.1 (.slice ao h.length cap) W4 HE.out.bl (HR.out.below HE.out.bl))).mono ?_; rintro e w1 ⟨rfl, h1⟩; rw [hdec]; have HE1 := Lib.hid (HE.out.below h1); obtain ⟨-, -, -, -, d1⟩ := HE1.out.res)
      | ((try refine ⟨hdd _, ?_⟩); gi_at_call 40; refine (hF.calls _ _ _ _ _ (present_any (.slice ao h.length cap) h (by have := HL.out; omega) w1 (HR.out.below HE1.out.bl))).mono ?_; rintro e w2 ⟨uv, rfl, h2, h3⟩)
    have HE2 := Lib.hid (HE1.out.below h3)
    obtain ⟨aou, cpu, rfl⟩ := h2.shape
    rw [natsI_len] at *
    have HU2 := Lib.hid h2.row
    have HUL := Lib.hid (And.intro (units_len h) (fun u hu => units_lt (h := h) (u := u) hu))
    have HUS := Lib.hid HS.out
    obtain ⟨us, hus⟩ : ∃ us, units h = us := ⟨_, rfl⟩
    rw [hus] at HU2 HUL HUS ⊢
    clear h2 h3 h1 hus HE1 HE HS d0 d1 c0 c1 c2 c3 c4
    have HUL2 := Lib.hid (show us.length ≤ 32 by have := HUL.out.1; have := HL.out; omega)
    refine wpIn_loop (fun a wr => SrO w g2 g3 g4 g5 #[.string nm, .int .i64 (c.m : Int), .int .i64 (c.k : Int), pv, .int .i64 dom] (.slice ao h.length cap) (.slice aou us.length cpu) (fun s => decL c (minusL h s)) us a wr) (fun a _ => 4 - (intOf (a.tmps.getD 18 undef)).toNat) ?start ?round
    case start => exact ⟨⟨0, [], _, _, _, _, _, _, _, _, _, _, _, _, _, _, _, _, _, _, _, _, _, _, _, _, _, _, _, _, _, _, _, _, _, _, _, _, _, by omega, rfl, HE2.out, HU2.out, rfl, List.nodup_nil, by simp⟩⟩
    case round =>
      clear HE2 HU2
      rintro a wr ⟨⟨f, Ds, u7, u8, u9, u10, u11, u12, u13, u14, u15, u16, u17, u19, u20, u21, u22, u23, u24, u25, u26, u27, u28, u29, u30, u31, u32, u33, u34, u35, u36, u37, u38, u39, u40, u41, u42, u43, u44, hf, rfl, hE, hu, hfl, hm⟩⟩
      have HFL := Lib.hid hfl
      have HM := Lib.hid hm
      have HEr := Lib.hid hE
      have HUr := Lib.hid hu
      clear hfl hm hu hE
      by_cases hlt : f < 4
      · have hltd : decide ((f : Int) < 4) = true := decide_eq_true (by omega)
        have hwf : IntKind.i64.wrap ((f : Int) + 1) = (f : Int) + 1 := IntWalk.i64_in _ (by omega)
        have HLT := Lib.hid hlt
        clear hlt hf
        gi_wp2_with ((try refine ⟨hdd _, ?_⟩); gi_at_call 29; refine (hF.calls _ _ _ _ _ (subsets_any aou us.length cpu ((f : Int) + 1) _)).mono ?_; rintro e w5 ⟨bl, bk, rfl, k1, k2, k3⟩)
        have HB7 := Lib.hid (show Box w5 wr.heap.size #[.int .i64 (f : Int)] from Box.below ⟨TI, World.alloc_heap_new wr _⟩ k3)
        have hb5 : Below wr.heap.size wr w5 := (al_below wr _).trans (k3.mono (al_below wr _).size)
        have HE5 := Lib.hid (HEr.out.below hb5)
        have HU5 := Lib.hid (HUr.out.below hb5)
        have HM5 := Lib.hid (HM.out.below hb5)
        have HBK := Lib.hid (And.intro k1 k2)
        clear k1 k2 k3 hb5 HEr HUr HM
        generalize wr.heap.size = g7 at HB7 ⊢
        have HMD := Lib.hid (fun D (hD : D ∈ Ds) => (Array.getElem?_eq_some_iff.1 (HM5.out.2 D hD).2).1)
        refine' wpIn_rangeFunc_rows hro (by omega) (gf := 49) (lb := #[.pointer (some ⟨bk, 0, none⟩), .pointer (some ⟨bl, 0, none⟩)]) rfl (hfn _) (fun args w => by kernel_rfl)
          (subsets_seq hF _ (.slice aou us.length cpu) (natsI us) (by rw [natsI_len]; have := HUL2.out; omega) (f + 1) (by have := HLT.out; omega) bk bl w5 (by rw [Int.natCast_add]; exact HBK.out.1) HBK.out.2 HU5.out) (fun A B C h k => h.trans k) (fun A B h => h.mono (Nat.zero_le _)) (Below.refl _ _) rfl (fun i x A B h hk => SubR.keep h hk)
          (fun i W => SrI w5 (fun s => decL c (minusL h s)) us f i W)
          (fun c' W => SrX w w5 g4 g5 (fun s => decL c (minusL h s)) us f c' W) ?hI ?hIx ?h0 _ ?assign ?body ?done ?stop
        case hI =>
          rintro i A B ⟨h1, h3⟩ hz hb
          exact ⟨h1.trans hb.bl, h3⟩
        case hIx =>
          rintro c' A B ⟨h1, h7, i, t, sv, h2, h3, h4, h5, h6⟩ hz hk
          exact ⟨h1, fun k k1 k2 k3 => (hk.bl.block k k1).trans (h7 k k1 k2 k3), i, t, sv, h2, h3, h4, h5.keep hk HE5.out.lt.2.2.2.2, row_kpb h6 (hk.mono (Nat.zero_le _))⟩
        case h0 => exact ⟨Below.refl _ _, fun j t hj => absurd hj (by omega)⟩
        case assign =>
          intro l x W K hK
          gi_wp2
          exact hK
        case body =>
          rintro l i x W hiN ⟨hbl5, hall⟩ hz ⟨t1, ht1, hown⟩
          have hE := HE5.out.below hbl5
          have hb7 := HB7.out.below hbl5
          rw [show natsI us = us.map (fun p : Nat => (p : Int)) from rfl, subsL_map, List.getElem?_map] at ht1
          obtain ⟨t, ht, rfl⟩ := Option.map_eq_some_iff.1 ht1
          have hsub := mem_subsL.1 (List.mem_of_getElem? ht)
          have htl : t.length = f + 1 := hsub.2
          have HTH := Lib.hid (fun u (hu : u ∈ t) => HUL.out.2 u (hsub.1.subset hu))
          have HT := Lib.hid (And.intro ht hall)
          have HOWN := Lib.hid (show OwnI w5.heap.size W x (natsI t) from hown)
          have HROW := Lib.hid (show RowI W x (intsV (natsI t)) from hown.row)
          have HBL5 := Lib.hid hbl5
          have HE0 := Lib.hid (And.intro hE hb7)
          have HN0 := Lib.hid (show ∀ j t', j < i + 1 → (subsL us (f + 1))[j]? = some t' → decL c (minusL h t) = true → decL c (minusL h t') = true from fun j t' hj hjt hd => by
            rcases Nat.lt_or_ge j i with h1 | h1
            · exact hall j t' h1 hjt
            · obtain rfl : j = i := by omega
              rw [ht] at hjt; cases hjt; exact hd)
          obtain ⟨ax, cx, rfl, -, -, -⟩ := id HROW.out
          rw [intsV_len, natsI_len] at *
          obtain ⟨-, -, -, -, d0⟩ := hE.res
          clear hE hb7 hall ht1 hown ht hsub hiN hbl5
          have htl2 : (t.length : Int) ≤ 1000 := by have := HLT.out; omega
          clear htl
          gi_wp2_with ((try refine ⟨hdd _, ?_⟩); gi_at_call 41; refine (hF.callsR _ _ (cloneB_any (.slice ao h.length cap) h (by have := HL.out; omega) W (HR.out.below HE0.out.1.bl))).mono ?_; rintro e w6 ⟨rest, rfl, m1, m2⟩)
          have HM0 := Lib.hid (And.intro m1 m2)
          clear m1 m2 d0
          gi_loopw [30] (fun v wr => SrL W rest h t v wr) (fun v _ => t.length - (intOf v).toNat)
          case atStart => exact ⟨⟨0, Nat.zero_le _, rfl, HM0.out.1, HM0.out.2⟩⟩
          case round =>
            obtain ⟨k, hk, rfl, ho, hb⟩ := hrel.st
            clear hrel HM0
            by_cases hkt : k < t.length
            · have hktd : decide ((k : Int) < (t.length : Int)) = true := decide_eq_true (by omega)
              have hwk : IntKind.i64.wrap ((k : Int) + 1) = (k : Int) + 1 := IntWalk.i64_in _ (by omega)
              obtain ⟨u, hu⟩ : ∃ u, t[k]? = some u := ⟨_, List.getElem?_eq_getElem hkt⟩
              have huh : u < h.length := HTH.out u (List.mem_of_getElem? hu)
              obtain ⟨_, _, hv1, -, -, hr1⟩ := HROW.out
              simp only [Value.slice.injEq] at hv1
              obtain ⟨rfl, -, rfl⟩ := hv1
              obtain ⟨b1, o1, rfl, hl1, hc1⟩ := hr1 (by rw [intsV_len, natsI_len]; omega)
              have e1 := (hb.cell (p := ⟨b1, o1 + k, none⟩) hl1).trans (hc1 k _ (natsI_at hu))
              have hml : (minusL h (t.take k)).length = h.length := minusL_len _ _
              obtain ⟨gr, cr, rfl, hgb, hgl⟩ := ho.shape (by rw [hml]; omega)
              obtain ⟨⟨uu, e2⟩, f2⟩ := ho.cell (p := u) (by rw [hml]; exact huh)
              rw [hml] at *
              have HO := Lib.hid (And.intro ho (And.intro hb (And.intro hu hgb)))
              clear ho hb hu hr1 hc1 hl1
              gi_wp2
              go_roundw
              case rel => exact ⟨⟨k + 1, hkt, rfl, by rw [minusL_take HO.out.2.2.1]; exact HO.out.1.set u false, HO.out.2.1.setCell (p := ⟨gr, u, none⟩) HO.out.2.2.2 _⟩⟩
              case measure => simp only [intOf]; omega
            · have hktd : decide ((k : Int) < (t.length : Int)) = false := decide_eq_false (by omega)
              have hktp : ¬ (k : Int) < (t.length : Int) := by omega
              have hrow2 : RowI wr rest (boolsV (minusL h t)) := by
                have h1 : t.take k = t := List.take_of_length_le (by omega)
                rw [h1] at ho; exact ho.row
              have HO := Lib.hid (And.intro hrow2 hb)
              obtain ⟨c0, c1, c2, c3, c4⟩ := (HE0.out.1.below hb).b2.code
              have d7 := (HE0.out.2.below hb).cell 0
              simp only [List.getElem?_toArray, List.getElem?_cons_zero] at d7
              clear ho hb hrow2
              cases hdt : decL c (minusL h t) with
              | true =>
                gi_wp2_with ((try refine ⟨hdd _, ?_⟩); gi_at_call 31; refine (hF.callsR _ _ (HDC.out (minusL h t) (by rw [minusL_len]; exact HL.out.1) rest wr (HE0.out.1.below HO.out.2).bl HO.out.1)).mono ?_; rintro e w7 ⟨rfl, n1⟩; rw [hdt])
                have hb7 : Below W.heap.size W w7 := HO.out.2.trans (n1.mono HO.out.2.size)
                exact ⟨KeepsFrom.of_below hb7, KpB.of hb7 (Nat.zero_le _), ⟨HBL5.out.trans (hb7.mono hz), fun j t' hj hjt => HN0.out j t' hj hjt hdt⟩⟩
              | false =>
                gi_wp2_with ((try refine ⟨hdd _, ?_⟩); gi_at_call 31; refine (hF.callsR _ _ (HDC.out (minusL h t) (by rw [minusL_len]; exact HL.out.1) rest wr (HE0.out.1.below HO.out.2).bl HO.out.1)).mono ?_; rintro e w7 ⟨rfl, n1⟩; rw [hdt]; have HB7 := Lib.hid (show Below W.heap.size W w7 from HO.out.2.trans (n1.mono HO.out.2.size)); have HE7 := Lib.hid (HE0.out.1.below HB7.out); obtain ⟨r1, r2, r3, r4, -⟩ := HE7.out.res; have hl4 := HE7.out.lt.2.2.1; have hl5 := HE7.out.lt.2.2.2.1; have d8 := (HE0.out.2.below HB7.out).cell 0; simp only [List.getElem?_toArray, List.getElem?_cons_zero] at d8)
                obtain ⟨hD, hK⟩ := HE7.out.set (f : Int) (.slice ax t.length cx)
                have h57 : w5.heap.size ≤ w7.heap.size := Nat.le_trans hz HB7.out.size
                have l4 := HE5.out.lt.2.2.1
                have l5 := HE5.out.lt.2.2.2.1
                have b4 := But.set g4 0 w7 (.int .i64 (f : Int))
                have b5 := But.set g5 0 (w7.setCell ⟨g4, 0, none⟩ (.int .i64 (f : Int))) (.slice ax t.length cx)
                refine ⟨⟨Nat.le_trans HB7.out.size (Nat.le_trans b4.size b5.size), fun k o hk hko _ => ?_⟩, rfl, fun k k1 k2 k3 => ?_, i, t, _, HT.out.1, hdt, HT.out.2, hD, ?_⟩
                · rw [hK k (by omega) (by omega)]
                  exact (HB7.out.block k (Array.getElem?_eq_some_iff.1 hko).1).trans hko
                · rw [hK k k2 k3]
                  exact (HB7.out.block k (by omega)).trans (HBL5.out.block k k1)
                · exact (((HOWN.out.below HB7.out).but b4 l4).but b5 l5).row
        case done =>
          intro D W hD ⟨hbl5, hall⟩ hK
          have HX := Lib.hid (And.intro hbl5 hall)
          have HK := Lib.hid hK
          clear hbl5 hall hK
          gi_wp2
          have hN : (subsL (natsI us) (f + 1)).length = (subsL us (f + 1)).length := by rw [show natsI us = us.map (fun p : Nat => (p : Int)) from rfl, subsL_map, List.length_map]
          refine ⟨⟨⟨f + 1, D :: Ds, _, _, _, _, _, _, _, _, _, _, _, _, _, _, _, _, _, _, _, _, _, _, _, _, _, _, _, _, _, _, _, _, _, _, _, _, _, HLT.out, rfl, HE5.out.below HX.out.1, HU5.out.below HX.out.1, ?_, ?_⟩⟩, ?_⟩
          · rw [HFL.out]
            refine firstL_none HLT.out fun s hs => ?_
            obtain ⟨j, hj⟩ := List.mem_iff_getElem?.1 hs
            exact HX.out.2 j s (by rw [hN]; exact (List.getElem?_eq_some_iff.1 hj).1) hj
          · refine ⟨List.nodup_cons.2 ⟨fun hm => ?_, HM5.out.1⟩, fun E hE => ?_⟩
            · have := HMD.out D hm; omega
            · rcases List.mem_cons.1 hE with rfl | hE
              · exact ⟨Nat.le_trans HE5.out.bl.size hD, HK.out⟩
              · exact (HM5.out.below HX.out.1).2 E hE
          · show 4 - (intOf (.int .i64 ((f : Int) + 1))).toNat < 4 - (intOf (.int .i64 (f : Int))).toNat
            simp only [intOf]
            have := HLT.out
            omega
        case stop =>
          rintro D c' W hD ⟨rfl, h7, i, t, sv, h2, h3, h4, h5, h6⟩ hK
          have HX := Lib.hid (And.intro h7 (And.intro h2 (And.intro h3 (And.intro h4 (And.intro h5 (And.intro h6 hK))))))
          clear h7 h2 h3 h4 h5 h6 hK
          gi_wp2
          obtain ⟨h7, h2, h3, h4, h5, h6, hK⟩ := HX.out
          refine sr_leave (Ds := D :: Ds) h5 ⟨List.nodup_cons.2 ⟨fun hm => ?_, HM5.out.1⟩, fun E hE => ?_⟩ rfl rfl fun w' hw' => ?_
          · have := HMD.out D hm; omega
          · rcases List.mem_cons.1 hE with rfl | hE
            · exact ⟨Nat.le_trans HE5.out.bl.size hD, hK⟩
            · have h8 := (HM5.out.2 E hE).2
              obtain ⟨t4, q4⟩ := HE5.out.b4
              obtain ⟨t5, q5⟩ := HE5.out.b5
              refine ⟨(HM5.out.2 E hE).1, (h7 E (HMD.out E hE) (fun e => ?_) (fun e => ?_)).trans h8⟩
              · rw [e, q4] at h8; cases h8
              · rw [e, q5] at h8; cases h8
          · rw [HUS.out, HFL.out, firstL_some HLT.out h2 h3 h4]
            exact ⟨sv, rfl, row_kpb h6 (hw'.mono (Nat.zero_le _)), h5.bl.trans (hw'.bl.mono (Nat.le_refl _))⟩
      · obtain rfl : f = 4 := by omega
        have hltd : decide (((4 : Nat) : Int) < 4) = false := rfl
        obtain ⟨r1, r2, r3, r4, -⟩ := HEr.out.res
        have hl4 := HEr.out.lt.2.2.1
        have hl5 := HEr.out.lt.2.2.2.1
        clear hlt hf
        gi_wp2
        obtain ⟨hD, hK⟩ := HEr.out.set 4 (.slice none 0 0)
        obtain ⟨t4, q4⟩ := HEr.out.b4
        obtain ⟨t5, q5⟩ := HEr.out.b5
        refine sr_leave (Ds := Ds) hD ⟨HM.out.1, fun E hE => ?_⟩ rfl rfl fun w' hw' => ?_
        · have h8 := (HM.out.2 E hE).2
          refine ⟨(HM.out.2 E hE).1, (hK E (fun e => ?_) (fun e => ?_)).trans h8⟩
          · rw [e, q4] at h8; cases h8
          · rw [e, q5] at h8; cases h8
        · rw [HUS.out, HFL.out]
          exact ⟨_, rfl, ⟨none, 0, rfl, Nat.le_refl _, by unfold maxLen; omega, fun hh => absurd hh (by simp [intsV, natsI, firstL])⟩, (hD.keep hw' (Nat.le_refl _)).bl⟩
end Go.Proofs.YtnilepaicnnbhaaGreatDoor

/- slices.Values over integers, slices.AppendSeq, slices.Collect. -/
namespace Go.Proofs.YtnilepaicnnbhaaGreatDoor
open Go.RowKit Go.GF Go.Sl Go.Shelf
attribute [local go_sem] Oper.semAt_some

/-- What Values hands out in round i. -/
def ValR (L : List Int) (i : Nat) (v : Value) (_ : World) : Prop := ∃ x, L[i]? = some x ∧ v = .int .i64 x
set_option maxRecDepth 20000 in
theorem values_any (ao : Option Addr) (n cap : Nat) (w : World) :
    Calls Tryz.prog 28 #[.slice ao n cap] w fun e w' => ∃ g, e = .returned (.func (.func 48) #[] #[.pointer (some ⟨g, 0, none⟩)]) ∧ w'.cell? ⟨g, 0, none⟩ = some (.slice ao n cap) ∧ Below w.heap.size w w' := by
  go_enter Tryz.func28, Tryz.ntmps28
  go_wp2
  go_ret
  refine ⟨w.heap.size, rfl, ?_, al_below w _⟩
  unfold World.cell?
  rw [show (w.alloc _).heap[w.heap.size]? = _ from World.alloc_heap_new w _]; rfl
structure VlSt (w0 : World) (J : Nat → World → Prop) (L : List Int) (W : World) (v : Value) (wr : World) : Prop where
  st : ∃ k : Nat, k ≤ L.length ∧ v = .int .i64 (k : Int) ∧ J k wr ∧ Below w0.heap.size W wr
set_option maxRecDepth 100000 in
set_option maxHeartbeats 2000000 in
theorem values_seq {F : Fence} (hF : Free F Tryz.prog) (n : Nat) (sv : Value) (L : List Int) (hL : L.length ≤ 100000) (g : Nat) (w0 : World) (hg : w0.cell? ⟨g, 0, none⟩ = some sv) (hr : RowI w0 sv (intsV L)) :
    SeqRows F n Tryz.prog 48 #[.pointer (some ⟨g, 0, none⟩)] L.length (ValR L) (Below w0.heap.size) w0 := by
  intro l J Jx W hb hJ hJx hY h0
  have hfn : ∀ f, F.fn f := hF.fn
  have hro := hF.round
  have hdd : ∀ k : Nat, (F.depth.isSome = true → 1 ≤ k) := fun k h => by rw [hF.depth] at h; cases h
  have hc := (hb.cell (p := ⟨g, 0, none⟩) (World.block_lt_of_cell? w0 _ hg)).trans hg
  have HR := Lib.hid hr
  have HB := Lib.hid hb
  have HY := Lib.hid hY
  have H0 := Lib.hid h0
  obtain ⟨ao, cap, rfl, -, -, -⟩ := hr
  rw [intsV_len] at *
  have hl63 : (L.length : Int) ≤ 100000 := by omega
  clear hJ hJx hY h0 hg hb
  refine callsIn_of_wp Tryz.func48 rfl (hfn _) ?_ hro
  simp only [Tryz.ntmps48, List.size_toArray, List.length_cons, List.length_nil, Nat.reduceAdd, Nat.reduceSub, Array.replicate_succ, Array.replicate_zero, List.push_toArray, List.append_toArray, List.nil_append, List.cons_append]
  gi_wp2
  gi_loopw [7] (fun v wr => VlSt w0 J L W v wr) (fun v _ => L.length - (intOf v).toNat)
  case atStart => exact ⟨⟨0, Nat.zero_le _, rfl, H0.out, Below.refl _ _⟩⟩
  case round =>
    clear H0 hc
    obtain ⟨k, hk, rfl, hJk, hkp⟩ := hrel.st
    clear hrel
    have HJ := Lib.hid (And.intro hJk hkp)
    by_cases hlt : k < L.length
    · have hki : (k : Int) < (L.length : Int) := by omega
      have hwk : IntKind.i64.wrap ((k : Int) + 1) = (k : Int) + 1 := IntWalk.i64_in _ (by omega)
      obtain ⟨x, hx⟩ : ∃ x, L[k]? = some x := ⟨_, List.getElem?_eq_getElem hlt⟩
      obtain ⟨_, _, hv1, -, -, hr1⟩ := HR.out
      simp only [Value.slice.injEq] at hv1
      obtain ⟨rfl, -, rfl⟩ := hv1
      obtain ⟨b1, o1, rfl, hl1, hc1⟩ := hr1 (by rw [intsV_len]; omega)
      have e1 := (hkp.cell (p := ⟨b1, o1 + k, none⟩) hl1).trans ((HB.out.cell (p := ⟨b1, o1 + k, none⟩) hl1).trans (hc1 k _ (intsV_at hx)))
      obtain ⟨fn, tmps, assign, body, hy, hR⟩ := HY.out k (.int .i64 x) wr hlt hJk hkp.size ⟨x, hx, rfl⟩
      have HLT := Lib.hid hlt
      clear hJk hkp hr1 hc1 hl1 hx hlt hk
      gi_wp2_with ((try refine ⟨hdd _, ?_⟩); refine hR.mono ?_; clear hR; rintro e W2 (⟨rfl, hJ2, hk2⟩ | ⟨rfl, hJx2⟩))
      · refine ⟨⟨⟨k + 1, HLT.out, rfl, hJ2, HJ.out.2.trans hk2⟩⟩, ?_⟩
        simp only [intOf]
        have := HLT.out
        omega
      · refine bodyPost_ret (results_none rfl _ _ _) rfl ?_
        exact ⟨⟨_, rfl⟩, .inr hJx2⟩
    · have hne : k = L.length := by omega
      have hltn : ¬ (k : Int) < (L.length : Int) := by omega
      rw [hne] at HJ
      gi_wp2
      go_end0
      exact ⟨⟨_, rfl⟩, .inl HJ.out.1⟩
end Go.Proofs.YtnilepaicnnbhaaGreatDoor

/- slices.AppendSeq, slices.Collect of integers. -/
namespace Go.Proofs.YtnilepaicnnbhaaGreatDoor
open Go.RowKit Go.GF Go.Sl Go.Shelf
attribute [local go_sem] Oper.semAt_some

/-- append of one integer that lies in a new block, inside a fence. -/
theorem wpListIn_apN {F : Fence} {m : Nat} {ops : Array Oper} {rest : List Oper} {o : Oper} {a : Act} {Q : Exit → Act → World → Prop} {w : World} {t : TypeId} (hgd : o.guard = none) (s x : Operand)
    (ho : o.op = .call { callee := .builtin .append, args := #[s, x], argTypes := #[26, 26] }) {base : Nat} {v : Value} {L : List Int} {z : Int} (hs : a.eval s = v) (hx : a.eval x = .slice (some ⟨w.heap.size, 0, none⟩) 1 1)
    (hown : OwnI base w v L) (hn : L.length ≤ 100000) (hbase : base ≤ w.heap.size)
    (h : ∀ v' w', OwnI base w' v' (L ++ [z]) → Below base (w.alloc (.cells #[.int .i64 z] t)) w' → (w.alloc (.cells #[.int .i64 z] t)).grownBy w' v.ownBlock → wpListIn F m Tryz.prog ops Q rest (a.put o.dst v') w') : wpListIn F m Tryz.prog ops Q (o :: rest) a (w.alloc (.cells #[.int .i64 z] t)) := by
  obtain ⟨i0, hi, hz0, hz1, hz2⟩ := info_parts info_int3
  have hown2 : OwnI base (w.alloc (.cells #[.int .i64 z] t)) v L := hown.below (al_below w _)
  refine wpListIn_append_own _ hgd s x 26 ho base TI i0 (.int .i64 0) 1 8 Tryz.underlying26 hi hz0 hz1 hz2 rfl (by decide) v L.length (intsV L) hs hown2 ⟨w.heap.size, 0, none⟩ 1 1 [.int .i64 z] hx rfl ?_ ?_ (by unfold maxLen; omega) (by omega) (Nat.le_trans hbase (al_below w _).size) ?_
  · intro j u hu
    match j, hu with
    | 0, hu =>
      simp at hu
      subst hu
      rw [Addr.add_mid]
      unfold World.cell?
      rw [show (w.alloc (.cells #[.int .i64 z] t)).heap[w.heap.size]? = _ from World.alloc_heap_new w _]; rfl
  · intro u hu
    simp at hu; subst hu; rfl
  · intro v' w' h1 h2 _
    refine h v' w' ?_ ((Below.refl base _).grown h2 (Nat.le_trans hbase (al_below w _).size) fun k hk => (World.ownsRow.lt hown2 k hk).1) h2
    show w'.ownsRow base TI 1 v' (L ++ [z]).length (intsV (L ++ [z]))
    rw [show intsV (L ++ [z]) = intsV L ++ [.int .i64 z] by unfold intsV; simp, List.length_append]
    exact h1
theorem OwnI.kpb {base : Nat} {A C : World} {v : Value} {L : List Int} (h : OwnI base A v L) (hk : KpB 0 A C) : OwnI base C v L := by
  refine ⟨h.1, ?_⟩
  rcases h.2 with h0 | ⟨g, cap, cur, hv, hb', hg, h3⟩
  · exact .inl h0
  · exact .inr ⟨g, cap, cur, hv, hb', (hk.cells g _ _ _ hg).trans hg, h3⟩
/-- Between two rounds: what has come is in the box. -/
structure ApI (w : World) (gs base : Nat) (L : List Int) (i : Nat) (W : World) : Prop where
  bl : Below w.heap.size w W
  st : ∃ v, Box W gs #[v] ∧ OwnI base W v (L.take i)
  sz : base ≤ W.heap.size
set_option maxRecDepth 100000 in
set_option maxHeartbeats 4000000 in
theorem appendseq_in (gf : Nat) (lb : Array Value) (eg : ∀ args w, (callFunc gf args).run Tryz.prog w = .ok (.enter gf args) w) (L : List Int) (hL : L.length ≤ 100000) (w : World) (hseq : ∀ w' m, Below w.heap.size w w' → SeqRows Fence.wide m Tryz.prog gf lb L.length (ValR L) (Below w.heap.size) w') :
    CallsIn Fence.wide 8 Tryz.prog 68 #[.slice none 0 0, .func (.func gf) #[] lb] w fun e w' => ∃ v, e = .returned v ∧ OwnI w.heap.size w' v L ∧ Below w.heap.size w w' := by
  have hF := free_wide Tryz.prog
  have hfn : ∀ f, Fence.wide.fn f := hF.fn
  have hro := hF.round
  have hdd : ∀ k : Nat, (Fence.wide.depth.isSome = true → 1 ≤ k) := fun k h => by rw [hF.depth] at h; cases h
  have HSQ := Lib.hid hseq
  have HEG := Lib.hid eg
  clear hseq eg
  refine callsIn_of_wp_marks Tryz.func68 rfl (hfn _) ?_ hro
  simp only [Tryz.ntmps68, List.size_toArray, List.length_cons, List.length_nil, Nat.reduceAdd, Nat.reduceSub, Array.replicate_succ, Array.replicate_zero, List.push_toArray, List.append_toArray, List.nil_append, List.cons_append]
  gi_wp2
  have HS := Lib.hid (show ApI w w.heap.size (w.heap.size + 1) L 0 (w.alloc (.cells #[.slice none 0 0] 26)) from ⟨al_below w _, ⟨_, ⟨_, World.alloc_heap_new w _⟩, OwnI.nil _ _⟩, by simp⟩)
  have hb0 := al_below w (.cells #[.slice none 0 0] 26)
  have hsz : (w.alloc (.cells #[.slice none 0 0] 26)).heap.size = w.heap.size + 1 := by simp
  generalize (w.alloc (.cells #[.slice none 0 0] 26)) = w1 at HS hb0 hsz ⊢
  refine' wpIn_rangeFunc_rows hro (by omega) (gf := gf) (lb := lb) rfl (hfn _) HEG.out (HSQ.out w1 _ hb0) (fun A B C h k => h.trans k) (fun A B h => h.bl.mono (by omega)) (Below.refl _ _) rfl (fun i x A B h hk => h)
    (fun i W => ApI w w.heap.size (w.heap.size + 1) L i W) (fun _ _ => False) ?hI ?hIx ?h0 _ ?assign ?body ?done ?stop
  case hI =>
    rintro i A B ⟨h1, ⟨v, h2, h3⟩, h4⟩ hz hk
    exact ⟨h1.trans (hk.bl.mono (by omega)), ⟨v, h2.keep (hk.bl.block _ (by omega)), h3.kpb (hk.mono (Nat.zero_le _))⟩, Nat.le_trans h4 hk.bl.size⟩
  case hIx => intro _ _ _ h; exact h.elim
  case h0 => exact HS.out
  case assign =>
    intro l x W K hK
    gi_wp2
    exact hK
  case body =>
    rintro l i x W hiN ⟨h1, ⟨v, h2, h3⟩, h4⟩ hz ⟨y, hy, rfl⟩
    obtain ⟨ao, cp, rfl⟩ := h3.shape
    have htl : (L.take i).length = i := by rw [List.length_take]; omega
    rw [htl] at h2 h3
    have hv := h2.cell 0
    simp only [List.getElem?_toArray, List.getElem?_cons_zero] at hv
    have HX := Lib.hid (And.intro h1 (And.intro h2 (And.intro h3 h4)))
    have HT := Lib.hid (show L.take (i + 1) = L.take i ++ [y] by rw [List.take_add_one, hy]; rfl)
    have HLE := Lib.hid (show (L.take i).length ≤ 100000 by rw [List.length_take]; omega)
    have HTL := Lib.hid htl
    clear h1 h2 h3 hy htl
    gi_wp2_with (gi_at_builtin; refine wpListIn_apN rfl _ _ rfl rfl rfl HX.out.2.2.1 HLE.out h4 ?_; intro v' w9 h9 h10 h11; have HN := Lib.hid (And.intro h9 (And.intro h10 h11)); have HB9 := Lib.hid (HX.out.2.1.keep ((h10.block _ (by omega)).trans ((al_below W _).block _ HX.out.2.1.lt))); have c9 := HB9.out.cell 0; simp only [List.getElem?_toArray, List.getElem?_cons_zero] at c9; have f9 := HB9.out.free 0; obtain ⟨ao9, cp9, rfl⟩ := h9.shape; rw [show (L.take i ++ [y]).length = i + 1 by rw [List.length_append, HTL.out]; rfl] at *; clear h9 h10 h11)
    obtain ⟨h9, h10, h11⟩ := HN.out
    obtain ⟨h1, h2, h3, h5⟩ := HX.out
    have hbs := But.set w.heap.size 0 w9 (.slice ao9 (i + 1) cp9)
    have hz9 : W.heap.size ≤ w9.heap.size := Nat.le_trans (al_below W (.cells #[.int .i64 y] 3)).size h10.size
    have hbw : Below (w.heap.size + 1) W w9 := ((al_below W _).mono h4).trans h10
    refine ⟨⟨Nat.le_trans hz9 hbs.size, fun k o hk hko hnc => ?_⟩, ?_, ?_, ?_, ?_⟩
    · have hkl := (Array.getElem?_eq_some_iff.1 hko).1
      rw [hbs.block k (Nat.lt_of_lt_of_le hkl hz9) (by omega)]
      have ha : (W.alloc (.cells #[.int .i64 y] 3)).heap[k]? = some o := ((al_below W _).block k hkl).trans hko
      refine (h11.block k (by have := (al_below W (.cells #[.int .i64 y] 3)).size; omega) (fun e => ?_)).trans ha
      rcases h3.2 with ⟨h0, -⟩ | ⟨g', cap, cur, hv', hb', hg', -⟩
      · have e' : some k = (Value.slice ao i cp).ownBlock := e
        rw [h0] at e'; cases e'
      · have e' : some k = (Value.slice ao i cp).ownBlock := e
        rw [hv'] at e'
        simp only [Value.ownBlock, Option.some.injEq] at e'
        subst e'
        rw [hko] at hg'
        cases hg'
        cases hnc
    · exact (hbw.mono (by omega)).trans (hbs.below (Nat.le_refl _) (Nat.le_trans h1.size hz9))
    · exact h1.trans ((hbw.mono (by omega)).trans (hbs.below (Nat.le_refl _) (Nat.le_trans h1.size hz9)))
    · obtain ⟨t9, q9⟩ := HB9.out
      refine ⟨.slice ao9 (i + 1) cp9, ⟨t9, ?_⟩, ?_⟩
      · rw [heap_setCell_same w9 w.heap.size 0 _ t9 _ q9]; rfl
      · rw [HT.out]
        exact h9.but hbs (by omega)
    · exact Nat.le_trans (Nat.le_trans h4 hz9) hbs.size
  case done =>
    intro D W hD ⟨h1, ⟨v, h2, h3⟩, h4⟩ hK
    obtain ⟨ao, cp, rfl⟩ := h3.shape
    have hv := h2.cell 0
    simp only [List.getElem?_toArray, List.getElem?_cons_zero] at hv
    have HX := Lib.hid (And.intro h1 (And.intro h3 hK))
    clear h1 h2 h3 hK
    gi_wp2
    obtain ⟨h1, h3, hK⟩ := HX.out
    refine leaves_marks (B := w1.heap.size) [D] W (by simp) (by intro E hE; simp at hE; subst hE; exact ⟨hD, hK⟩) fun w' hw' => ⟨_, results_tmp rfl _ _ _, ?_⟩
    rw [List.take_length] at h3
    exact ⟨_, rfl, (h3.kpb (hw'.mono (Nat.zero_le _))).mono (by omega), h1.trans (hw'.bl.mono (by omega))⟩
  case stop => intro D c W _ h; exact h.elim
theorem appendseq_any (gf : Nat) (lb : Array Value) (eg : ∀ args w, (callFunc gf args).run Tryz.prog w = .ok (.enter gf args) w) (L : List Int) (hL : L.length ≤ 100000) (w : World) (hseq : ∀ w' m, Below w.heap.size w w' → SeqRows Fence.wide m Tryz.prog gf lb L.length (ValR L) (Below w.heap.size) w') :
    Calls Tryz.prog 68 #[.slice none 0 0, .func (.func gf) #[] lb] w fun e w' => ∃ v, e = .returned v ∧ OwnI w.heap.size w' v L ∧ Below w.heap.size w w' := callsIn_wide.1 (appendseq_in gf lb eg L hL w hseq)
set_option maxRecDepth 20000 in
theorem collect_any (gf : Nat) (lb : Array Value) (eg : ∀ args w, (callFunc gf args).run Tryz.prog w = .ok (.enter gf args) w) (L : List Int) (hL : L.length ≤ 100000) (w : World) (hseq : ∀ w' m, Below w.heap.size w w' → SeqRows Fence.wide m Tryz.prog gf lb L.length (ValR L) (Below w.heap.size) w') :
    Calls Tryz.prog 46 #[.func (.func gf) #[] lb] w fun e w' => ∃ v, e = .returned v ∧ OwnI w.heap.size w' v L ∧ Below w.heap.size w w' := by
  have HA := Lib.hid (appendseq_any gf lb eg L hL w hseq)
  clear hseq eg
  go_enter Tryz.func46, Tryz.ntmps46
  go_wp2_with (go_at_call 68; refine HA.out.mono ?_; rintro e w1 ⟨v, rfl, h1, h2⟩)
  go_ret
  exact ⟨v, rfl, h1, h2⟩
end Go.Proofs.YtnilepaicnnbhaaGreatDoor
