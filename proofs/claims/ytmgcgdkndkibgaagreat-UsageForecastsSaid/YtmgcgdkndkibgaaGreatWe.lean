/- solventlaw27.refs, maps: two rows of pairs are equal. Printed by ve.py. -/
import Derived.Test.YtmgcgdkndkibgaaGreatWa
import Derived.BigQuiet
namespace Go.Proofs.YtmgcgdkndkibgaaGreat
open Go.RowKit Go.Vol Go.Sl

structure EqSt (w : World) (A B : List (Nat × Int)) (i : Value) (wr : World) : Prop where
  st : ∃ k : Nat, k ≤ A.length ∧ i = .int .i64 k ∧ A.take k = B.take k ∧ Below w.heap.size w wr
theorem ref_cells {w : World} {ao : Option Addr} {n cap : Nat} {l : List (Nat × Int)} {i : Nat} {x : Nat × Int} (h : RowsAt w (.slice ao n cap) l.length (l.flatMap refE)) (hx : l[i]? = some x) : ∃ b : Nat, ao = some ⟨b, 0, none⟩ ∧ b < w.heap.size ∧
    w.cell? ⟨b, i * 2, none⟩ = some (.int .i64 (x.1 : Int)) ∧ w.cell? ⟨b, i * 2 + 1, none⟩ = some (.int .i64 x.2) := by
  obtain ⟨ao', cap', e, _, _, h4⟩ := h
  obtain ⟨b, hb, hlt, hc⟩ := h4 (by have := (List.getElem?_eq_some_iff.1 hx).1; omega)
  simp only [Value.slice.injEq] at e
  refine ⟨b, e.1.trans hb, hlt, ?_, ?_⟩
  · have := hc _ _ (flat_at refE_len l i x hx 0 _ rfl); rwa [Nat.add_zero] at this
  · exact hc _ _ (flat_at refE_len l i x hx 1 _ rfl)

end Go.Proofs.YtmgcgdkndkibgaaGreat
