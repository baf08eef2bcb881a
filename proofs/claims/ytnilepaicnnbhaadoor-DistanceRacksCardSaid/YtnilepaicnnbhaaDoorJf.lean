/- package matrix: matrices in memory; row, zero, add. -/
import Derived.Test.YtnilepaicnnbhaaDoorJe
namespace Go.GF
open Go Go.RowKit
/-- Nothing but one block, and what was not there, is changed. -/
structure But (b : Nat) (w w' : World) : Prop where
  os : w'.os = w.os
  tape : w'.tape = w.tape
  output : w'.output = w.output
  size : w.heap.size ≤ w'.heap.size
  block : ∀ k, k < w.heap.size → k ≠ b → w'.heap[k]? = w.heap[k]?
theorem But.refl (b : Nat) (w : World) : But b w w := ⟨rfl, rfl, rfl, Nat.le_refl _, fun _ _ _ => rfl⟩
theorem But.trans {b : Nat} {w w' w'' : World} (h : But b w w') (k : But b w' w'') : But b w w'' :=
  ⟨k.os.trans h.os, k.tape.trans h.tape, k.output.trans h.output, Nat.le_trans h.size k.size, fun i hi hne => (k.block i (Nat.lt_of_lt_of_le hi h.size) hne).trans (h.block i hi hne)⟩
theorem But.of {b : Nat} {w w' : World} (h : Below w.heap.size w w') : But b w w' := ⟨h.os, h.tape, h.output, h.size, fun k hk _ => h.block k hk⟩
theorem But.set (b o : Nat) (w : World) (v : Value) : But b w (w.setCell ⟨b, o, none⟩ v) :=
  ⟨rfl, rfl, rfl, by simp [World.setCell], fun _ _ hne => heap_setCell_other _ _ _ _ hne⟩
theorem But.below {b B : Nat} {w w' : World} (h : But b w w') (hB : B ≤ b) (hs : B ≤ w.heap.size) : Below B w w' := ⟨h.os, h.tape, h.output, h.size, fun k hk => h.block k (Nat.lt_of_lt_of_le hk hs) (by omega)⟩
theorem But.drew {b : Nat} {w w' : World} (h : But b w w') : But b w w'.drew := ⟨h.os, h.tape, h.output, h.size, h.block⟩

/-- A matrix in a block of its own. -/
structure MatB (w : World) (b R C : Nat) (M : Mat) : Prop where
  at_ : ∃ (c : Array Value) (t : TypeId), w.heap[b]? = some (.cells c t (0, 0)) ∧ R * C ≤ c.size ∧ ∀ i, i < R → ∀ j, j < C → c[i * C + j]? = some (.int .i64 ((M i j : Nat) : Int))
theorem idx_lt {R C i j : Nat} (hi : i < R) (hj : j < C) : i * C + j < R * C := by
  have : (i + 1) * C ≤ R * C := Nat.mul_le_mul_right C hi
  rw [Nat.add_mul] at this; omega
theorem idx_inj {C i j i' j' : Nat} (hj : j < C) (hj' : j' < C) (h : i * C + j = i' * C + j') : i = i' ∧ j = j' := by
  have h1 : (i * C + j) / C = i := by rw [Nat.mul_comm, Nat.mul_add_div (by omega), Nat.div_eq_of_lt hj, Nat.add_zero]
  have h2 : (i' * C + j') / C = i' := by rw [Nat.mul_comm, Nat.mul_add_div (by omega), Nat.div_eq_of_lt hj', Nat.add_zero]
  have h3 : i = i' := by rw [← h1, ← h2, h]
  exact ⟨h3, by subst h3; omega⟩
theorem MatB.lt {w : World} {b R C : Nat} {M : Mat} (h : MatB w b R C M) : b < w.heap.size := by
  obtain ⟨c, t, h1, -, -⟩ := h.at_
  rcases Nat.lt_or_ge b w.heap.size with h | h
  · exact h
  · rw [Array.getElem?_eq_none h] at h1; cases h1
theorem MatB.cell {w : World} {b R C : Nat} {M : Mat} (h : MatB w b R C M) {i j : Nat} (hi : i < R) (hj : j < C) : w.cell? ⟨b, i * C + j, none⟩ = some (.int .i64 ((M i j : Nat) : Int)) := by
  obtain ⟨c, t, h1, -, h3⟩ := h.at_
  unfold World.cell?
  simp only [h1]
  exact h3 i hi j hj
theorem MatB.free {w : World} {b R C : Nat} {M : Mat} (h : MatB w b R C M) (o : Nat) : w.frozen? ⟨b, o, none⟩ = false := by
  obtain ⟨c, t, h1, -, -⟩ := h.at_
  unfold World.frozen?
  simp [h1]
theorem MatB.keep {w w' : World} {b R C : Nat} {M : Mat} (h : MatB w b R C M) (hk : w'.heap[b]? = w.heap[b]?) : MatB w' b R C M := by
  obtain ⟨c, t, h1, h2, h3⟩ := h.at_
  exact ⟨c, t, hk.trans h1, h2, h3⟩
theorem MatB.below {w w' : World} {b R C : Nat} {M : Mat} (h : MatB w b R C M) (hb : Below w.heap.size w w') : MatB w' b R C M := h.keep (hb.block b h.lt)
theorem MatB.but {w w' : World} {b b' R C : Nat} {M : Mat} (h : MatB w b R C M) (hb : But b' w w') (hne : b ≠ b') : MatB w' b R C M := h.keep (hb.block b h.lt hne)
theorem MatB.congr {w : World} {b R C : Nat} {M M' : Mat} (h : MatB w b R C M) (he : ∀ i, i < R → ∀ j, j < C → M i j = M' i j) : MatB w b R C M' := by
  obtain ⟨c, t, h1, h2, h3⟩ := h.at_
  exact ⟨c, t, h1, h2, fun i hi j hj => by rw [h3 i hi j hj, he i hi j hj]⟩
def setM (M : Mat) (i j x : Nat) : Mat := fun i' j' => if i' = i ∧ j' = j then x else M i' j'
theorem MatB.set {w : World} {b R C : Nat} {M : Mat} (h : MatB w b R C M) {i j : Nat} (hj : j < C) (x : Nat) : MatB (w.setCell ⟨b, i * C + j, none⟩ (.int .i64 (x : Int))) b R C (setM M i j x) := by
  obtain ⟨c, t, h1, h2, h3⟩ := h.at_
  refine ⟨c.setIfInBounds (i * C + j) (.int .i64 (x : Int)), t, heap_setCell_same w b _ c t _ h1, by simpa using h2, fun i' hi' j' hj' => ?_⟩
  unfold setM
  by_cases he : i' = i ∧ j' = j
  · obtain ⟨rfl, rfl⟩ := he
    have := idx_lt hi' hj
    rw [if_pos ⟨rfl, rfl⟩, Array.getElem?_setIfInBounds_self_of_lt (by omega)]
  · rw [if_neg he, Array.getElem?_setIfInBounds_ne (by
      intro h
      exact he ⟨(idx_inj hj hj' h).1.symm, (idx_inj hj hj' h).2.symm⟩)]
    exact h3 i' hi' j' hj'
def matV (m R C b cap : Nat) : Array Value := #[.int .i64 (m : Int), .int .i64 (R : Int), .int .i64 (C : Int), .slice (some ⟨b, 0, none⟩) (R * C) cap]
end Go.GF
namespace Go.Proofs.YtnilepaicnnbhaaDoor
open Go.RowKit Go.GF

set_option maxRecDepth 20000 in
set_option maxHeartbeats 1000000 in
theorem row_any (m R C b cap i : Nat) (hi : i < R) (hR : R ≤ 32) (hC : C ≤ 32) (h0 : 0 < C) (hcap : R * C ≤ cap) (w : World) :
    Calls Tryd.prog 50 #[.agg (matV m R C b cap), .int .i64 (i : Int)] w fun e w' => e = .returned (.slice (some ⟨b, i * C, none⟩) C (cap - i * C)) ∧ Below w.heap.size w w' := by
  have h2 : (i + 1) * C = i * C + C := by rw [Nat.add_mul]; omega
  have h3 : (i + 1) * C ≤ R * C := Nat.mul_le_mul_right C hi
  have h4 : R * C ≤ 32 * 32 := Nat.mul_le_mul hR hC
  have hw1 : IntKind.i64.wrap ((i : Int) * (C : Int)) = ((i * C : Nat) : Int) := by
    rw [show (i : Int) * (C : Int) = ((i * C : Nat) : Int) by simp]; exact wrap_nat (by omega)
  have hw2 : IntKind.i64.wrap ((i : Int) + 1) = ((i + 1 : Nat) : Int) := by
    rw [show (i : Int) + 1 = ((i + 1 : Nat) : Int) by simp]; exact wrap_nat (by omega)
  have hw3 : IntKind.i64.wrap (((i + 1 : Nat) : Int) * (C : Int)) = ((i * C + C : Nat) : Int) := by
    rw [← h2, show ((i + 1 : Nat) : Int) * (C : Int) = (((i + 1) * C : Nat) : Int) by simp]; exact wrap_nat (by omega)
  unfold matV
  have hn : cap ≠ i * C := by omega
  have hlc : i * C + C ≤ cap := by omega
  have hsub : i * C + C - i * C = C := by omega
  generalize R * C = N at *
  generalize hI : i * C = P at *
  generalize hJ : i + 1 = i1 at *
  generalize hQ : P + C = Q at *
  have hle : P ≤ Q := by omega
  clear h2 h3 h4 hI hJ hcap
  go_enter Tryd.func50, Tryd.ntmps50
  go_wp2
  go_ret
  exact ⟨rfl, al_below w _⟩
end Go.Proofs.YtnilepaicnnbhaaDoor
