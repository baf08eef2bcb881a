/- Rows of integers that a call has made for itself. -/
import Derived.Test.YtnilepaicnnbhaaDoorJk
import Derived.Laws.AppendOwn
namespace Go.Proofs.YtnilepaicnnbhaaDoor
open Go.RowKit Go.GF Go.Sl

/-- A row of integers of the call's own, in a block from base on. -/
def OwnI (base : Nat) (w : World) (v : Value) (L : List Int) : Prop := w.ownsRow base TI 1 v L.length (intsV L)
theorem OwnI.nil (base : Nat) (w : World) : OwnI base w (.slice none 0 0) [] := World.ownsRow_nil w base TI 1
theorem OwnI.row {base : Nat} {w : World} {v : Value} {L : List Int} (h : OwnI base w v L) : RowI w v (intsV L) := by
  rcases h.2 with ⟨rfl, hn⟩ | ⟨g, cap, cur, rfl, hb, hg, h1, h2, h3, h4⟩
  · have : L = [] := List.eq_nil_of_length_eq_zero hn
    subst this
    exact ⟨none, 0, rfl, Nat.le_refl _, by unfold maxLen; omega, fun h => absurd h (by simp [intsV])⟩
  · refine ⟨some ⟨g, 0, none⟩, cap, by rw [intsV_len], by rw [intsV_len]; exact h1, h2, fun _ => ⟨g, 0, rfl, (Array.getElem?_eq_some_iff.1 hg).1, fun j u hu => ?_⟩⟩
    have := World.ownsRow.cells h (g := g) rfl j u hu
    rw [show (⟨g, 0, none⟩ : Addr).add j = ⟨g, 0 + j, none⟩ from Addr.add_mid _ _ _] at this
    exact this
theorem OwnI.keep {base : Nat} {w w' : World} {v : Value} {L : List Int} (h : OwnI base w v L) (hk : ∀ k, base ≤ k → k < w.heap.size → w'.heap[k]? = w.heap[k]?) : OwnI base w' v L := by
  refine ⟨h.1, ?_⟩
  rcases h.2 with h0 | ⟨g, cap, cur, hv, hb, hg, h1⟩
  · exact .inl h0
  · exact .inr ⟨g, cap, cur, hv, hb, by rw [hk g hb (Array.getElem?_eq_some_iff.1 hg).1]; exact hg, h1⟩
theorem OwnI.but {base b : Nat} {w w' : World} {v : Value} {L : List Int} (h : OwnI base w v L) (hb : But b w w') (hlt : b < base) : OwnI base w' v L := h.keep fun k h1 h2 => hb.block k h2 (by omega)
theorem OwnI.below {base : Nat} {w w' : World} {v : Value} {L : List Int} (h : OwnI base w v L) (hb : Below w.heap.size w w') : OwnI base w' v L := h.keep fun k _ h2 => hb.block k h2
theorem OwnI.mono {base base' : Nat} {w : World} {v : Value} {L : List Int} (h : OwnI base w v L) (hb : base' ≤ base) : OwnI base' w v L := by
  refine ⟨h.1, ?_⟩
  rcases h.2 with h0 | ⟨g, cap, cur, hv, hb', h1⟩
  · exact .inl h0
  · exact .inr ⟨g, cap, cur, hv, Nat.le_trans hb hb', h1⟩
theorem OwnI.shape {base : Nat} {w : World} {v : Value} {L : List Int} (h : OwnI base w v L) : ∃ ao cap, v = .slice ao L.length cap := by
  rcases h.2 with ⟨rfl, hn⟩ | ⟨g, cap, cur, rfl, -⟩
  · exact ⟨none, 0, by rw [hn]⟩
  · exact ⟨_, _, rfl⟩
/-- append of one integer. -/
theorem wpList_apI {ops : Array Oper} {rest : List Oper} {o : Oper} {a : Act} {Q : Exit → Act → World → Prop} {w : World} (hgd : o.guard = none) (s x : Operand)
    (ho : o.op = .call { callee := .builtin .append, args := #[s, x], argTypes := #[26, 26] }) {base : Nat} {v : Value} {L : List Int} {q : Nat} {z : Int} (hs : a.eval s = v) (hx : a.eval x = .slice (some ⟨q, 0, none⟩) 1 1)
    (hown : OwnI base w v L) (hc : w.cell? ⟨q, 0, none⟩ = some (.int .i64 z)) (hn : L.length ≤ 100000) (hbase : base ≤ w.heap.size)
    (h : ∀ v' w', OwnI base w' v' (L ++ [z]) → Below base w w' → wpList Tryd.prog ops Q rest (a.put o.dst v') w') : wpList Tryd.prog ops Q (o :: rest) a w := by
  obtain ⟨i0, hi, hz0, hz1, hz2⟩ := info_parts info_int3
  refine wpList_append_own w hgd s x 26 ho base TI i0 (.int .i64 0) 1 8 Tryd.underlying26 hi hz0 hz1 hz2 rfl (by decide) v L.length (intsV L) hs hown ⟨q, 0, none⟩ 1 1 [.int .i64 z] hx rfl ?_ ?_ (by unfold maxLen; omega) (by omega) hbase ?_
  · intro j u hu
    match j, hu with
    | 0, hu =>
      simp at hu
      subst hu
      rw [Addr.add_mid]
      exact hc
  · intro u hu
    simp at hu; subst hu; rfl
  · intro v' w' h1 h2 _
    refine h v' w' ?_ ((Below.refl base w).grown h2 hbase fun k hk => (World.ownsRow.lt hown k hk).1)
    show w'.ownsRow base TI 1 v' (L ++ [z]).length (intsV (L ++ [z]))
    rw [show intsV (L ++ [z]) = intsV L ++ [.int .i64 z] by unfold intsV; simp, List.length_append]
    exact h1
/-- append of one integer that lies in a new block. -/
theorem wpList_apN {ops : Array Oper} {rest : List Oper} {o : Oper} {a : Act} {Q : Exit → Act → World → Prop} {w : World} {t : TypeId} (hgd : o.guard = none) (s x : Operand)
    (ho : o.op = .call { callee := .builtin .append, args := #[s, x], argTypes := #[26, 26] }) {base : Nat} {v : Value} {L : List Int} {z : Int} (hs : a.eval s = v) (hx : a.eval x = .slice (some ⟨w.heap.size, 0, none⟩) 1 1)
    (hown : OwnI base w v L) (hn : L.length ≤ 100000) (hbase : base ≤ w.heap.size)
    (h : ∀ v' w', OwnI base w' v' (L ++ [z]) → Below base (w.alloc (.cells #[.int .i64 z] t)) w' → wpList Tryd.prog ops Q rest (a.put o.dst v') w') : wpList Tryd.prog ops Q (o :: rest) a (w.alloc (.cells #[.int .i64 z] t)) := by
  refine wpList_apI hgd s x ho hs hx (hown.below (al_below w _)) ?_ hn (Nat.le_trans hbase (al_below w _).size) h
  unfold World.cell?
  rw [show (w.alloc (.cells #[.int .i64 z] t)).heap[w.heap.size]? = _ from World.alloc_heap_new w _]; rfl
end Go.Proofs.YtnilepaicnnbhaaDoor
