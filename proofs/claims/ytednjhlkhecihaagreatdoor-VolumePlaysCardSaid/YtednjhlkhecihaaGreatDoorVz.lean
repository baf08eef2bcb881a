/- volume.Space.Refs's function: how often a part's tree maps to a chunk, counted at the part's tenant. -/
import Derived.RangeFuncFrom
import Derived.Test.YtednjhlkhecihaaGreatDoorVw
import Derived.Test.YtednjhlkhecihaaGreatDoorVr
namespace Go.Proofs.YtednjhlkhecihaaGreatDoor
open Go.RowKit Go.Vol Go.Shelf
attribute [local go_sem] Oper.semAt_some

abbrev TCnt : TypeId := 92
def cntsC (f : Nat → Int) : Array Value := ((List.range 16).map fun t => Value.int .i64 (f t)).toArray
/-- How many of some items map to a chunk. -/
def hits (c : Int) (l : List (Nat × Int)) : Nat := (l.filter fun x => x.2 == c).length
def bump (f : Nat → Int) (t : Nat) (n : Nat) : Nat → Int := fun i => if i = t then f i + (n : Int) else f i
theorem cntsC_at (f : Nat → Int) {t : Nat} (h : t < 16) : (cntsC f)[t]? = some (.int .i64 (f t)) := by
  unfold cntsC
  rw [List.getElem?_toArray, List.getElem?_map, List.getElem?_range h]; rfl
theorem cntsC_set (f : Nat → Int) {t : Nat} : (cntsC f).setIfInBounds t (.int .i64 (f t + 1)) = cntsC (bump f t 1) := by
  unfold cntsC
  rw [List.setIfInBounds_toArray]
  congr 1
  apply List.ext_getElem?
  intro i
  rw [List.getElem?_set, List.length_map, List.length_range, List.getElem?_map, List.getElem?_map]
  unfold bump
  by_cases hi : t = i
  · subst hi
    by_cases h16 : t < 16
    · simp [h16]
    · simp [h16]
  · rw [if_neg hi]
    by_cases h16 : i < 16
    · rw [List.getElem?_range h16]; simp [Ne.symm hi]
    · simp [h16]
theorem bump_add (f : Nat → Int) (t a b : Nat) : bump (bump f t a) t b = bump f t (a + b) := by
  funext i
  unfold bump
  split <;> simp_all
  omega
theorem bump_zero (f : Nat → Int) (t : Nat) : bump f t 0 = f := by funext i; unfold bump; split <;> simp
theorem hits_snoc (c : Int) (l : List (Nat × Int)) (x : Nat × Int) : hits c (l ++ [x]) = hits c l + if x.2 = c then 1 else 0 := by
  unfold hits
  rw [List.filter_append, List.length_append]
  by_cases h : x.2 = c
  · simp [h]
  · simp [h]
theorem hits_le (c : Int) (l : List (Nat × Int)) : hits c l ≤ l.length := List.length_filter_le _ _

set_option maxRecDepth 100000 in
set_option maxHeartbeats 4000000 in
theorem count_in (F : Fence) (hd : F.depth = none) (n : Nat) (hn3 : 3 ≤ n) (h0 : F.fn 52) (h1 : F.fn 100) (h2 : F.fn 85) (h3 : F.fn 53) (h4 : F.fn 101) (hro : F.round = none)
    (K C ten : Nat) (chunk id nv : Int) (r : Value) (m : MapM) (f : Nat → Int) (w : World) (ht : ten < 16) (hf0 : 0 ≤ f ten) (hf1 : f ten < 4611686018427383808) (hK : w.cell? ⟨K, 0, none⟩ = some (.int .i64 chunk)) (hKC : K < C)
    (hC : w.heap[C]? = some (.cells (cntsC f) TCnt (0, 0))) (hn : NodeOk TNode (· < C) w 2 r m) :
    CallsIn F n Tryz.prog 52 #[.agg #[.int .i64 id, .int .i64 (ten : Int), r, .int .i64 nv], .pointer (some ⟨K, 0, none⟩), .pointer (some ⟨C, 0, none⟩)] w fun e w' =>
      (∃ v, e = .returned v) ∧ Below C w w' ∧ w'.heap[C]? = some (.cells (cntsC (bump f ten (hits chunk (items m)))) TCnt (0, 0)) := by
  have hdd : ∀ k : Nat, (F.depth.isSome = true → 1 ≤ k) := fun k h => by rw [hd] at h; cases h
  have h1n : 1 ≤ n := by omega
  have hCl : C < w.heap.size := (Array.getElem?_eq_some_iff.1 hC).1
  obtain ⟨q, rfl⟩ := NodeOk.ptr hn
  have HAL := Lib.hid (fun W => all_in F (n - 1) hdd h3 h2 hro q nv W)
  have HN := Lib.hid hn
  clear hn
  refine callsIn_of_wp_marks Tryz.func52 rfl h0 ?_ hro
  simp only [Tryz.ntmps52, List.size_toArray, List.length_cons, List.length_nil, Nat.reduceAdd, Nat.reduceSub, Array.replicate_succ, Array.replicate_zero, List.push_toArray, List.append_toArray, List.nil_append, List.cons_append]
  gi_wp2_with ((try refine ⟨hdd _, ?_⟩); gi_at_call 53; refine (HAL.out _).mono ?_; rintro e w' ⟨rfl, hb, hr⟩)
  rw [World.size_alloc] at hb hr
  have hb0 : Below w.heap.size w w' := ((Below.refl _ w).alloc (Nat.le_refl _) _).trans (hb.mono (by omega))
  have hbC : Below C w w' := hb0.mono (by omega)
  have hid : w'.cell? ⟨w.heap.size, 1, none⟩ = some (.int .i64 (ten : Int)) := by
    rw [hb.cell (p := ⟨w.heap.size, 1, none⟩) (by simp)]
    unfold World.cell?
    rw [World.alloc_heap_new]; rfl
  have hsz' : w.heap.size + 1 ≤ w'.heap.size := by have := hb.size; rw [World.size_alloc] at this; exact this
  have hl := items_len m
  have hl2 := cnt_le m
  have hKlt : K < w.heap.size := by omega
  refine wpIn_rangeFunc_ownF hro h1n (gf := 100) (lb := #[.pointer (some ⟨w.heap.size + 1 + 1, 0, none⟩), .pointer (some ⟨w.heap.size + 1 + 1 + 1, 0, none⟩), .pointer (some ⟨w.heap.size + 1 + 1 + 2, 0, none⟩)]) rfl h1 (enters_of Tryz.func100 (by kernel_rfl) rfl)
    (all_stops F hd (n - 1) h1 h4 hro (w.heap.size + 1 + 1) C (.pointer q) m w' hr (by omega) (HN.out.keep fun j hj _ => hbC.block j hj)) belowK_t (belowK_b (by omega)) (Below.refl _ _) (fun _ => rfl)
    (fun pre W => (W.cell? ⟨w.heap.size, 1, none⟩ = some (.int .i64 (ten : Int)) ∧ W.heap[C]? = some (.cells (cntsC (bump f ten (hits chunk pre))) TCnt (0, 0))) ∧ Below C w W)
    (fun _ _ _ => False)
    (OwnFrom.and (Own.from (fun s A B row hs hg hr => ⟨cell_kept hs.1 hg hr, (grownBy_keeps_cells hg hr hs.2 rfl).trans hs.2⟩) _) (ownFrom_below (by omega) (by omega)))
    (fun _ _ _ _ _ hs _ _ => hs)
    ⟨⟨hid, by rw [show hits chunk [] = 0 from rfl, bump_zero, hb0.block C hCl]; exact hC⟩, hbC⟩
    (fun x => { tmps := #[.agg #[.int .i64 id, .int .i64 (ten : Int), .pointer q, .int .i64 nv], .pointer (some ⟨K, 0, none⟩), .pointer (some ⟨C, 0, none⟩), .pointer (some ⟨w.heap.size, 0, none⟩), undef, .int .i64 x.2, .pointer (some ⟨w.heap.size, 2, none⟩), .agg #[.pointer q, .int .i64 nv],
      .func (.func 100) #[] #[.pointer (some ⟨w.heap.size + 1 + 1, 0, none⟩), .pointer (some ⟨w.heap.size + 1 + 1 + 1, 0, none⟩), .pointer (some ⟨w.heap.size + 1 + 1 + 2, 0, none⟩)], .int .i64 (x.1 : Int), .int .i64 x.2, undef, undef, undef, undef, undef, undef, undef, undef, undef], defers := [] }) ?assign ?body ?done ?stop
  case assign =>
    intro l x W K hK
    gi_wp2
    exact hK
  case body =>
    rintro l pre x W ⟨⟨hi, hc⟩, hB⟩ hpl
    have hk := (hB.cell (p := ⟨K, 0, none⟩) hKC).trans hK
    have hct : W.cell? ⟨C, ten, none⟩ = some (.int .i64 (bump f ten (hits chunk pre) ten)) := by unfold World.cell?; rw [hc]; exact cntsC_at _ ht
    have hfz : W.frozen? ⟨C, ten, none⟩ = false := by unfold World.frozen?; rw [hc]; simp
    have hv : bump f ten (hits chunk pre) ten = f ten + (hits chunk pre : Int) := by unfold bump; simp
    have hh := hits_le chunk pre
    have hti : (ten : Int) < 16 := by omega
    have hs := hits_snoc chunk pre x
    rw [hv] at hct
    have HS := Lib.hid (And.intro hs (And.intro hc hB))
    have hhi : (hits chunk pre : Int) ≤ 4096 := by omega
    generalize hpe : hits chunk pre = hp at hct hhi
    have HPE := Lib.hid hpe
    clear hs hc hB HN HAL hh hr hb hb0 hbC hid hpe
    gi_wp2
    · rename_i hx
      obtain ⟨hs, hc, hB⟩ := HS.out
      rw [if_pos (eq_of_beq hx)] at hs
      refine ⟨KeepsOthers.setCell _ _ _, (Below.refl C W).setCell (p := ⟨C, ten, none⟩) (Nat.le_refl _) _, ⟨?_, ?_⟩, hB.setCell (p := ⟨C, ten, none⟩) (Nat.le_refl _) _⟩
      · exact (World.cell?_of_block (w := W) (a := ⟨w.heap.size, 1, none⟩) (heap_setCell_other W ⟨C, ten, none⟩ w.heap.size _ (by simp only [ne_eq]; omega))).trans hi
      · rw [hs, ← bump_add, ← cntsC_set, hv, HPE.out]
        have hlt := (Array.getElem?_eq_some_iff.1 hc).1
        simp only [World.setCell, Array.getElem?_modify, hc]
        simp [HPE.out]
    · rename_i hx
      obtain ⟨hs, hc, hB⟩ := HS.out
      rw [if_neg (fun h => by rw [h] at hx; simp at hx), Nat.add_zero] at hs
      refine ⟨KeepsOthers.refl _, Below.refl _ _, ⟨hi, ?_⟩, hB⟩
      rw [hs]; exact hc
  case done =>
    rintro D ys W hD rfl ⟨⟨_, hc⟩, hB⟩ hK
    gi_wp2
    refine ⟨by simp, .inl ⟨_, _, rfl, run_takeDeferred hK, ?_⟩⟩
    exact ⟨_, results_none rfl _ _ _, ⟨_, rfl⟩, hB.trans (belowK_b (n₀ := C) (w := w) (by omega) W D _ _ (by omega) hK rfl rfl), (grownBy_keeps_cells (grownBy_putObj' W D (.deferred none)) (fun r e => by cases e; exact ⟨_, hK, rfl⟩) hc rfl).trans hc⟩
  case stop =>
    rintro D c pre W _ _ h _
    exact h.elim

theorem count_any (K C ten : Nat) (chunk id nv : Int) (r : Value) (m : MapM) (f : Nat → Int) (w : World) (ht : ten < 16) (hf0 : 0 ≤ f ten) (hf1 : f ten < 4611686018427383808) (hK : w.cell? ⟨K, 0, none⟩ = some (.int .i64 chunk)) (hKC : K < C)
    (hC : w.heap[C]? = some (.cells (cntsC f) TCnt (0, 0))) (hn : NodeOk TNode (· < C) w 2 r m) :
    Calls Tryz.prog 52 #[.agg #[.int .i64 id, .int .i64 (ten : Int), r, .int .i64 nv], .pointer (some ⟨K, 0, none⟩), .pointer (some ⟨C, 0, none⟩)] w fun e w' =>
      (∃ v, e = .returned v) ∧ Below C w w' ∧ w'.heap[C]? = some (.cells (cntsC (bump f ten (hits chunk (items m)))) TCnt (0, 0)) :=
  callsIn_wide.1 (count_in Fence.wide rfl 3 (by omega) trivial trivial trivial trivial trivial rfl K C ten chunk id nv r m f w ht hf0 hf1 hK hKC hC hn)
end Go.Proofs.YtednjhlkhecihaaGreatDoor
