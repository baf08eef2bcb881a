import Derived.Test.YtnilepaicnnbhaaGreatDoorKn
/- Plain laws of package distance's functions, as the five laws ask for them. -/
namespace Go.GF
open Go Go.RowKit
/-- The units that a list of integers names, of n. -/
def ixL (n : Nat) (s : List Int) : List Nat := s.filterMap fun x => if 0 ≤ x ∧ x < (n : Int) then some x.toNat else none
theorem minusI_ixL (h : List Bool) (s : List Int) : minusI h s = minusL h (ixL h.length s) := by
  unfold minusI minusL ixL
  induction s generalizing h with
  | nil => rfl
  | cons x r ih =>
    rw [List.foldl_cons, ih, stepB_len, List.filterMap_cons]
    unfold stepB
    by_cases hx : 0 ≤ x ∧ x < (h.length : Int)
    · rw [if_pos hx, if_pos hx]; rfl
    · rw [if_neg hx, if_neg hx]
theorem ixL_len (n : Nat) (s : List Int) : (ixL n s).length ≤ s.length := List.length_filterMap_le _ _
theorem ixL_mem {n : Nat} {s : List Int} {u : Nat} : u ∈ ixL n s ↔ u < n ∧ (u : Int) ∈ s := by
  unfold ixL
  rw [List.mem_filterMap]
  constructor
  · rintro ⟨x, hx, h⟩
    by_cases hc : 0 ≤ x ∧ x < (n : Int)
    · rw [if_pos hc, Option.some.injEq] at h
      refine ⟨by omega, ?_⟩
      rw [show (u : Int) = x by omega]; exact hx
    · rw [if_neg hc] at h; cases h
  · rintro ⟨h1, h2⟩
    exact ⟨_, h2, by rw [if_pos (by omega)]; simp⟩
theorem ixL_nodup (n : Nat) : ∀ {s : List Int}, s.Nodup → (ixL n s).Nodup
  | [], _ => List.nodup_nil
  | x :: r, h => by
    obtain ⟨h1, h2⟩ := List.nodup_cons.1 h
    have ih := ixL_nodup n h2
    unfold ixL at ih ⊢
    rw [List.filterMap_cons]
    by_cases hc : 0 ≤ x ∧ x < (n : Int)
    · rw [if_pos hc]
      refine List.nodup_cons.2 ⟨fun hm => h1 ?_, ih⟩
      have := (ixL_mem (n := n) (s := r)).1 hm
      rw [show x = ((x.toNat : Nat) : Int) by omega]
      exact this.2
    · rw [if_neg hc]; exact ih
theorem ixL_nats {n : Nat} {s : List Nat} (h : ∀ u ∈ s, u < n) : ixL n (natsI s) = s := by
  unfold ixL natsI
  induction s with
  | nil => rfl
  | cons u r ih =>
    rw [List.map_cons, List.filterMap_cons, if_pos (by have := h u (by simp); omega), ih fun v hv => h v (by simp [hv])]
    simp
section
variable {nm : ByteArray} {f k : Int} {L : List (List Int)} {dom : Int}
theorem left_val {h : List Bool} (hl : 0 ≤ leftM nm f k L dom h) : checkB nm f k L dom = true ∧ (h.length : Int) = k + (L.length : Int) ∧ leftM nm f k L dom h = (searchM (codeM f k L) h).1 := by
  unfold leftM at hl ⊢
  by_cases hc : checkB nm f k L dom = true ∧ (h.length : Int) = k + (L.length : Int)
  · rw [if_pos hc]; exact ⟨hc.1, hc.2, rfl⟩
  · rw [if_neg hc] at hl; omega
/-- Left's promise. -/
theorem keeps_law {h : List Bool} {gone : List Int} (hl : 0 ≤ leftM nm f k L dom h) (hn : gone.Nodup) (hg : (gone.length : Int) ≤ leftM nm f k L dom h) : decL (codeM f k L) (minusI h gone) = true := by
  obtain ⟨h1, h2, h3⟩ := left_val hl
  rw [h3] at hg
  have hb := search_lo (codeM f k L) h
  have := (search_iff (c := codeM f k L) (h := h) (f := gone.length) (by omega)).1 hg _ (ixL_nodup h.length hn) (ixL_len _ _)
  rw [minusI_ixL]
  exact this
theorem units_sorted (h : List Bool) : (units h).Pairwise (· < ·) := (List.pairwise_lt_range).sublist List.filter_sublist
/-- What Fatal returns. -/
structure FatalP (h : List Bool) (l : List Nat) : Prop where
  lt : ∀ u ∈ l, u < h.length
  srt : l.Pairwise (· < ·)
  pres : ∀ u ∈ l, h[u]? = some true
theorem fatal_none {h : List Bool} (hl : leftM nm f k L dom h < 0 ∨ leftM nm f k L dom h = 4) : fatalM nm f k L dom h = [] := by
  unfold leftM at hl
  unfold fatalM
  split
  · rename_i hc
    rw [if_pos hc] at hl
    exact search_nil hl
  · rfl
theorem fatal_some {h : List Bool} (h0 : 0 ≤ leftM nm f k L dom h) (h4 : leftM nm f k L dom h ≠ 4) : ((fatalM nm f k L dom h).length : Int) = leftM nm f k L dom h + 1 ∧ FatalP h (fatalM nm f k L dom h) ∧ decL (codeM f k L) (minusI h (natsI (fatalM nm f k L dom h))) = false := by
  obtain ⟨h1, h2, h3⟩ := left_val h0
  have e : fatalM nm f k L dom h = (searchM (codeM f k L) h).2 := by
    unfold fatalM
    rw [if_pos ⟨h1, h2⟩]
  rw [e]
  rw [h3] at h0 h4 ⊢
  obtain ⟨a, b, c⟩ := search_bad h0 h4
  have hp : ∀ u ∈ (searchM (codeM f k L) h).2, h[u]? = some true := fun u hu => mem_units.1 (a.subset hu)
  have hlt : ∀ u ∈ (searchM (codeM f k L) h).2, u < h.length := fun u hu => (List.getElem?_eq_some_iff.1 (hp u hu)).1
  exact ⟨b, ⟨hlt, (units_sorted h).sublist a, hp⟩, by rw [minusI_ixL, ixL_nats hlt]; exact c⟩
theorem fatal_le {h : List Bool} : (fatalM nm f k L dom h).length ≤ 5 := by
  rcases Int.lt_or_le (leftM nm f k L dom h) 0 with h0 | h0
  · rw [fatal_none (.inl h0)]; simp
  · by_cases h4 : leftM nm f k L dom h = 4
    · rw [fatal_none (.inr h4)]; simp
    · have h1 := (fatal_some h0 h4).1
      obtain ⟨_, _, h3⟩ := left_val h0
      have := search_lo (codeM f k L) h
      omega
variable (hok : checkB nm f k L dom = true → (codeM f k L).Ok ∧ ((codeM f k L).n : Int) = k + (L.length : Int))
include hok
/-- One more missing unit. -/
theorem steps_law (h : List Bool) (u : Int) : leftM nm f k L dom (minusI h [u]) ≤ leftM nm f k L dom h ∧ leftM nm f k L dom h - 1 ≤ leftM nm f k L dom (minusI h [u]) := by
  unfold leftM
  rw [minusI_len]
  split
  · rename_i hc
    rw [minusI_ixL]
    unfold ixL
    rw [List.filterMap_cons]
    by_cases hx : 0 ≤ u ∧ u < (h.length : Int)
    · rw [if_pos hx]
      exact search_step (hok hc.1).1 h _
    · rw [if_neg hx]
      show (searchM (codeM f k L) h).1 ≤ _ ∧ _ ≤ (searchM (codeM f k L) h).1
      omega
  · omega
theorem steps_all {n : Nat} (hn : (n : Int) = k + (L.length : Int)) : leftM nm f k L dom (List.replicate n true) = lossesM nm f k L dom := by
  by_cases hc : checkB nm f k L dom = true
  · rw [show n = (codeM f k L).n by have := (hok hc).2; omega]
    exact Go.Proofs.YtnilepaicnnbhaaGreatDoor.left_all hc (hok hc).2
  · unfold leftM lossesM
    rw [if_neg fun h => hc h.1, if_neg hc]
theorem losses_lo : -1 ≤ lossesM nm f k L dom ∧ lossesM nm f k L dom ≤ 4 ∧ lossesM nm f k L dom ≤ (L.length : Int) := by
  unfold lossesM
  split
  · rename_i hc
    have h1 := search_lo (codeM f k L) (List.replicate (codeM f k L).n true)
    have h2 := search_par (hok hc).1 (h := List.replicate (codeM f k L).n true) (by rw [List.length_replicate])
    refine ⟨h1.1, h1.2, ?_⟩
    have e : (codeM f k L).par.length = L.length := by unfold codeM; simp
    rw [e] at h2
    exact h2
  · omega
/-- Every unit in a rack of its own. -/
theorem bounds_own {n : Nat} (hn : (n : Int) = k + (L.length : Int)) : racksI nm f k L dom ((List.range n).map fun i : Nat => 7 * (i : Int) - 3) = lossesM nm f k L dom := by
  by_cases hc : checkB nm f k L dom = true
  · obtain ⟨h1, h2⟩ := hok hc
    have e : n = (codeM f k L).n := by omega
    unfold racksI lossesM
    rw [if_pos ⟨hc, by simp; omega⟩, if_pos hc, e]
    exact racks_own h1 (fun i : Nat => 7 * (i : Int) - 3) (fun a b (h : 7 * (a : Int) - 3 = 7 * (b : Int) - 3) => by omega) (names_nodup _) (names_mem _)
  · unfold racksI lossesM
    rw [if_neg fun h => hc h.1, if_neg hc]
/-- All units in one rack. -/
theorem bounds_one {n : Nat} (hn : (n : Int) = k + (L.length : Int)) : racksI nm f k L dom (List.replicate n 5) = min (lossesM nm f k L dom) 0 := by
  by_cases hc : checkB nm f k L dom = true
  · obtain ⟨h1, h2⟩ := hok hc
    have h3 := search_all h1
    unfold racksI lossesM
    rw [if_pos ⟨hc, by simp; omega⟩, if_pos hc, racks_one h1 (names_nodup _) (names_mem _) (x := 5) (by simp; omega) (fun k hk => (List.mem_replicate.1 hk).2)]
    omega
  · unfold racksI lossesM
    rw [if_neg fun h => hc h.1, if_neg hc]
    omega
/-- The racks' names do not count. -/
theorem racks_other (racks : List Int) (s : Int) : racksI nm f k L dom (racks.map fun x => s - x) = racksI nm f k L dom racks := by
  unfold racksI
  rw [List.length_map]
  split
  · rename_i hc
    obtain ⟨h1, h2⟩ := hok hc.1
    congr 1
    exact racks_rename h1 (fun x => s - x) (fun x => s - x) (fun x => by omega) (by omega) (names_nodup _) (names_mem _) (names_nodup _) (names_mem _)
  · rfl
theorem racks_merged (racks : List Int) (a b : Int) : racksI nm f k L dom (racks.map fun x => if x = a then b else x) ≤ racksI nm f k L dom racks := by
  unfold racksI
  rw [List.length_map]
  split
  · rename_i hc
    obtain ⟨h1, h2⟩ := hok hc.1
    exact Int.ofNat_le.2 (racks_map h1 (fun x => if x = a then b else x) (by omega) (names_nodup _) (names_mem _) (names_nodup _) (names_mem _))
  · exact Int.le_refl _
end
end Go.GF

/- Law DistanceKeepsPromise: the walk. -/
namespace Go.Proofs.YtnilepaicnnbhaaGreatDoor
open Go.RowKit Go.GF Go.Sl Go.Shelf
/-- A law's first argument: any code. -/
structure ArgC (w : World) (nm : ByteArray) (f k : Int) (pv : Value) (dom : Int) (L : List (List Int)) : Prop where
  nm_ : nm.size ≤ maxLen
  par : RowsI w pv L
theorem ArgC.below {w w' : World} {nm : ByteArray} {f k : Int} {pv : Value} {dom : Int} {L : List (List Int)} (h : ArgC w nm f k pv dom L) (hb : Below w.heap.size w w') : ArgC w' nm f k pv dom L := ⟨h.nm_, h.par.below hb⟩
theorem smallB_le {k : Int} {n : Nat} (h : smallB k n = true) : 0 ≤ k ∧ k ≤ 6 ∧ n ≤ 5 ∧ k + (n : Int) ≤ 9 := by
  unfold smallB at h
  simp only [Bool.and_eq_true, decide_eq_true_eq] at h
  exact h
theorem ArgC.cv {w : World} {nm : ByteArray} {f k : Int} {pv : Value} {dom : Int} {L : List (List Int)} (h : ArgC w nm f k pv dom L) (hs : smallB k L.length = true) : CvAt w (codeV nm f k pv dom) nm f k L dom := by
  have := smallB_le hs
  exact ⟨⟨pv, rfl, h.par⟩, h.nm_, by omega, by omega⟩
theorem decodablec_any (cv : Array Value) (nm : ByteArray) (f k : Int) (L : List (List Int)) (dom : Int) (hv : Value) (h : List Bool) (w : World) (hT : TabF w) (hc : CvAt w cv nm f k L dom) (h1 : checkB nm f k L dom = true) (h2 : (h.length : Int) = k + (L.length : Int)) (hr : RowI w hv (boolsV h)) :
    Calls Tryz.prog 31 #[.agg cv, hv] w fun e w' => e = .returned (.bool (decL (codeM f k L) h)) ∧ Below w.heap.size w w' :=
  decodable_any cv (codeM f k L) hv h (by have := (hc.code h1).2; omega) w hT (hc.code h1).1 hr
end Go.Proofs.YtnilepaicnnbhaaGreatDoor

/- Law DistanceFatal: the walk. -/
namespace Go.Proofs.YtnilepaicnnbhaaGreatDoor
open Go.RowKit Go.GF Go.Sl Go.Shelf
structure FlS (w : World) (m : Nat) (i : Value) (wr : World) : Prop where
  st : ∃ n : Nat, n ≤ m ∧ i = .int .i64 (n : Int) ∧ Below w.heap.size w wr
end Go.Proofs.YtnilepaicnnbhaaGreatDoor

/- Law DistanceSteps: the walk. -/
namespace Go.Proofs.YtnilepaicnnbhaaGreatDoor
open Go.RowKit Go.GF Go.Sl Go.Shelf
theorem OwnB.nil (base : Nat) (w : World) : OwnB base w (.slice none 0 0) [] := World.ownsRow_nil w base TB 1
theorem boolsV_app (h : List Bool) (x : Bool) : boolsV (h ++ [x]) = boolsV h ++ [.bool x] := by unfold boolsV; simp
/-- append of one truth value that lies in a new block. -/
theorem wpList_apNB {ops : Array Oper} {rest : List Oper} {o : Oper} {a : Act} {Q : Exit → Act → World → Prop} {w : World} {t : TypeId} (hgd : o.guard = none) (s x : Operand)
    (ho : o.op = .call { callee := .builtin .append, args := #[s, x], argTypes := #[25, 25] }) {base : Nat} {v : Value} {L : List Bool} {z : Bool} (hs : a.eval s = v) (hx : a.eval x = .slice (some ⟨w.heap.size, 0, none⟩) 1 1)
    (hown : OwnB base w v L) (hn : L.length ≤ 100000) (hbase : base ≤ w.heap.size)
    (h : ∀ v' w', OwnB base w' v' (L ++ [z]) → Below base (w.alloc (.cells #[.bool z] t)) w' → wpList Tryz.prog ops Q rest (a.put o.dst v') w') : wpList Tryz.prog ops Q (o :: rest) a (w.alloc (.cells #[.bool z] t)) := by
  obtain ⟨i0, hi, hz0, hz1, hz2⟩ := info_parts info_bool1
  have hown2 : OwnB base (w.alloc (.cells #[.bool z] t)) v L := hown.below (al_below w _)
  have hb2 : base ≤ (w.alloc (.cells #[.bool z] t)).heap.size := Nat.le_trans hbase (al_below w _).size
  refine wpList_append_own (w.alloc (.cells #[.bool z] t)) hgd s x 25 ho base TB i0 (.bool false) 1 1 Tryz.underlying25 hi hz0 hz1 hz2 rfl (by decide) v L.length (boolsV L) hs hown2 ⟨w.heap.size, 0, none⟩ 1 1 [.bool z] hx rfl ?_ ?_ (by unfold maxLen; omega) (by omega) hb2 ?_
  · intro j u hu
    match j, hu with
    | 0, hu =>
      simp at hu
      subst hu
      rw [Addr.add_mid]
      unfold World.cell?
      rw [show (w.alloc (.cells #[.bool z] t)).heap[w.heap.size]? = _ from World.alloc_heap_new w _]; rfl
  · intro u hu
    simp at hu; subst hu; rfl
  · intro v' w' h1 h2 _
    refine h v' w' ?_ ((Below.refl base _).grown h2 hb2 fun k hk => (World.ownsRow.lt hown2 k hk).1)
    show w'.ownsRow base TB 1 v' (L ++ [z]).length (boolsV (L ++ [z]))
    rw [boolsV_app, List.length_append]
    exact h1
theorem run_leqT {y z : Int} (h : y ≤ z) (w : World) : (binOp .leq 3 (.int .i64 y) (.int .i64 z)).run Tryz.prog w = .ok (.bool true) w := by simp [go_sem, h]
theorem run_geqT {y z : Int} (h : z ≤ y) (w : World) : (binOp .geq 3 (.int .i64 y) (.int .i64 z)).run Tryz.prog w = .ok (.bool true) w := by simp [go_sem, h]
theorem run_eqlT {z : Int} (w : World) : (binOp .eql 3 (.int .i64 z) (.int .i64 z)).run Tryz.prog w = .ok (.bool true) w := by simp [go_sem]
theorem run_sub1 {z : Int} (h : -1 ≤ z ∧ z ≤ 4) (w : World) : (binOp .sub 3 (.int .i64 z) (.int .i64 1)).run Tryz.prog w = .ok (.int .i64 (z - 1)) w := by
  have hw : IntKind.i64.wrap (z - 1) = z - 1 := IntWalk.i64_in _ (by omega)
  simp [go_sem, hw]
structure SpS (w : World) (N : Nat) (av i : Value) (wr : World) : Prop where
  st : ∃ n : Nat, n ≤ N ∧ i = .int .i64 (n : Int) ∧ OwnB w.heap.size wr av (List.replicate n true) ∧ Below w.heap.size w wr
end Go.Proofs.YtnilepaicnnbhaaGreatDoor

/- Two rows of integers that a call makes for itself, side by side. -/
namespace Go.Proofs.YtnilepaicnnbhaaGreatDoor
open Go.RowKit Go.GF Go.Sl Go.Shelf
/-- Two rows of integers, made since w, and all that was there. -/
def Two (w W : World) (v1 : Value) (L1 : List Int) (v2 : Value) (L2 : List Int) : Prop :=
  Same w W ∧ Sat W (ownAt TI 1 v1 L1.length (intsV L1) * (ownAt TI 1 v2 L2.length (intsV L2) * old w))
theorem Two.start (w : World) : Two w w (.slice none 0 0) [] (.slice none 0 0) [] := ⟨Same.refl w, ownAt_nil.2 (ownAt_nil.2 (Sat.old w))⟩
theorem Two.swap {w W : World} {v1 v2 : Value} {L1 L2 : List Int} (h : Two w W v1 L1 v2 L2) : Two w W v2 L2 v1 L1 := ⟨h.1, h.2.perm (by ac_rfl)⟩
theorem Two.bl {w W : World} {v1 v2 : Value} {L1 L2 : List Int} (h : Two w W v1 L1 v2 L2) : Below w.heap.size w W := h.1.below_of (h.2.perm (show _ = (ownAt TI 1 v1 L1.length (intsV L1) * ownAt TI 1 v2 L2.length (intsV L2)) * old w by ac_rfl))
theorem Two.row {w W : World} {v1 v2 : Value} {L1 L2 : List Int} (h : Two w W v1 L1 v2 L2) : RowI W v1 (intsV L1) := by
  have hs := h.2
  rcases ownAt_iff.1 hs with ⟨rfl, h1, -, -⟩ | ⟨g, cap, cur, ⟨rfl, h2, h3, -, -, -⟩, -⟩
  · obtain rfl := List.eq_nil_of_length_eq_zero h1
    exact ⟨none, 0, rfl, Nat.le_refl _, by unfold maxLen; omega, fun hh => absurd hh (by simp [intsV])⟩
  · refine ⟨some ⟨g, 0, none⟩, cap, by rw [intsV_len], by rw [intsV_len]; exact h2, h3, fun hp => ?_⟩
    rw [intsV_len] at hp
    obtain ⟨g', cap', e, hc⟩ := ownAt_cells hs hp
    cases e
    obtain ⟨x, hx⟩ : ∃ x, L1[0]? = some x := ⟨_, List.getElem?_eq_getElem hp⟩
    exact ⟨g, 0, rfl, World.block_lt_of_cell? _ _ (hc 0 _ (intsV_at hx)), fun j u hu => by rw [Nat.zero_add]; exact hc j u hu⟩
theorem Two.shape {w W : World} {v1 v2 : Value} {L1 L2 : List Int} (h : Two w W v1 L1 v2 L2) : ∃ ao cap, v1 = .slice ao L1.length cap := ownAt_slice h.2
/-- append of one integer that lies in a new block, onto the first row. -/
theorem wpList_ap2 {ops : Array Oper} {rest : List Oper} {o : Oper} {a : Act} {Q : Exit → Act → World → Prop} {w W : World} {t : TypeId} (hgd : o.guard = none) (s x : Operand)
    (ho : o.op = .call { callee := .builtin .append, args := #[s, x], argTypes := #[26, 26] }) {v1 v2 : Value} {L1 L2 : List Int} {z : Int} (hs : a.eval s = v1) (hx : a.eval x = .slice (some ⟨W.heap.size, 0, none⟩) 1 1)
    (h2 : Two w W v1 L1 v2 L2) (hn : L1.length ≤ 100000)
    (h : ∀ v' w', Two w w' v' (L1 ++ [z]) v2 L2 → wpList Tryz.prog ops Q rest (a.put o.dst v') w') : wpList Tryz.prog ops Q (o :: rest) a (W.alloc (.cells #[.int .i64 z] t)) := by
  obtain ⟨i0, hi, hz0, hz1, hz2⟩ := info_parts info_int3
  refine wpList_append_ownAt (F := ownAt TI 1 v2 L2.length (intsV L2) * old w) hgd s x 26 TI ho i0 _ Tryz.underlying26 hi hz0 hz1 hz2 rfl (h2.2.allocKeep _) [.int .i64 z] hs hx rfl ?_ (by simp [Value.oneCell']) (by unfold maxLen; omega) (by omega) ?_
  · intro j u hu
    match j, hu with
    | 0, hu =>
      simp at hu
      subst hu
      rw [Addr.add_mid]
      unfold World.cell?
      rw [show (W.alloc (.cells #[.int .i64 z] t)).heap[W.heap.size]? = _ from World.alloc_heap_new W _]; rfl
  · intro v' w' h6
    refine h v' w' ⟨(h2.1.alloc _).trans h6.out.1, ?_⟩
    have := h6.out.2
    rw [show intsV L1 ++ [Value.int .i64 z] = intsV (L1 ++ [z]) by unfold intsV; simp, show L1.length + 1 = (L1 ++ [z]).length by simp] at this
    exact this
end Go.Proofs.YtnilepaicnnbhaaGreatDoor

/- Law DistanceBounds: the walk. -/
namespace Go.Proofs.YtnilepaicnnbhaaGreatDoor
open Go.RowKit Go.GF Go.Sl Go.Shelf
def ownL (n : Nat) : List Int := (List.range n).map fun i : Nat => 7 * (i : Int) - 3
theorem ownL_succ (n : Nat) : ownL (n + 1) = ownL n ++ [7 * (n : Int) - 3] := by unfold ownL; rw [List.range_succ, List.map_append]; rfl
theorem ownL_len (n : Nat) : (ownL n).length = n := by unfold ownL; simp
structure BdS (w : World) (N : Nat) (v1 v2 i : Value) (wr : World) : Prop where
  st : ∃ n : Nat, n ≤ N ∧ i = .int .i64 (n : Int) ∧ Two w wr v1 (ownL n) v2 (List.replicate n 5)
end Go.Proofs.YtnilepaicnnbhaaGreatDoor

/- Law DistanceRacks: the walk. -/
namespace Go.Proofs.YtnilepaicnnbhaaGreatDoor
open Go.RowKit Go.GF Go.Sl Go.Shelf
def otherL (s : Int) (l : List Int) : List Int := l.map fun x => s - x
def mergedL (a b : Int) (l : List Int) : List Int := l.map fun x => if x = a then b else x
theorem map_step {φ : Int → Int} {l : List Int} {n : Nat} {x : Int} (h : l[n]? = some x) : (l.take (n + 1)).map φ = (l.take n).map φ ++ [φ x] := by
  rw [List.take_add_one, h, List.map_append]; rfl
structure RcS (w : World) (racks : List Int) (s a b : Int) (v1 v2 i : Value) (wr : World) : Prop where
  st : ∃ n : Nat, n ≤ racks.length ∧ i = .int .i64 (n : Int) ∧ Two w wr v1 (otherL s (racks.take n)) v2 (mergedL a b (racks.take n))
end Go.Proofs.YtnilepaicnnbhaaGreatDoor
