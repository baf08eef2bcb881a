/- What a law is handed: a slice, its capacity said. It speaks of no program. -/
import Derived.Test.YtogmkbhbmmgidaaZl
namespace Go.Sl
open Go Go.RowKit
section
variable {P : Program} {w : World} {t : TypeId} {cs : List Value}
/-- A slice: its elements lie one behind the other in one block, and each reads. -/
theorem Rd.sliceC {e : TypeId} {sz : Nat} (hu : P.underlying t = some (.slice e)) (hsz : P.cellsOf e = sz) (h0 : 0 < sz) (h : Rd P w t cs) :
    ∃ ao len cap, cs = [.slice ao len cap] ∧ (len ≤ maxLen ∧ len ≤ cap) ∧ (0 < len → ∃ b off, ao = some ⟨b, off, none⟩ ∧ ∀ i, i < len → ∃ es : List Value, es.length = sz ∧ Rd P w e es ∧ ∀ j u, es[j]? = some u → w.cell? ⟨b, off + i * sz + j, none⟩ = some u) := by
  obtain ⟨H, enc, fuel, d, ps, h⟩ := h
  cases fuel with
  | zero => simp [DataW.trod] at h
  | succ m =>
    rw [DataW.trod_step] at h
    have key : cs = [.slice none 0 0] ∨ ∃ a len cap, cs = [.slice (some a) len cap] ∧ len ≤ cap ∧ cap ≤ maxLen ∧ ∃ elems, (List.range len).mapM (fun i => (w.cells? 0 (a.add (i * P.cellsOf e)) (P.cellsOf e)).bind (DataW.trod enc P w 0 (fun _ => true) true m e)) = some elems := by
      unfold DataW.trodStep at h
      rw [hu] at h
      split at h
      all_goals first
        | (exfalso; simp at *; done)
        | skip
      all_goals first
        | (rename_i heq; cases heq; exact .inl rfl)
        | (rename_i e' a len cap heq
           cases heq
           simp only at h
           split at h
           · rename_i hc
             obtain ⟨elems, he, _⟩ := Option.bind_eq_some_iff.1 h
             exact .inr ⟨a, len, cap, rfl, hc.2.1, hc.2.2, elems, he⟩
           · cases h)
        | (rename_i heq; cases heq)
        | (cases h)
    rcases key with rfl | ⟨a, len, cap, rfl, hlc, hcm, elems, he⟩
    · exact ⟨none, 0, 0, rfl, ⟨Nat.zero_le _, Nat.le_refl _⟩, fun h => absurd h (Nat.lt_irrefl 0)⟩
    rw [hsz] at he
    refine ⟨some a, len, cap, rfl, ⟨Nat.le_trans hlc hcm, hlc⟩, fun hl => ?_⟩
    have hat : ∀ i, i < len → ∃ es, w.cells? 0 (a.add (i * sz)) sz = some es ∧ ∃ y, DataW.trod enc P w 0 (fun _ => true) true m e es = some y := by
      intro i hi
      obtain ⟨y, hy⟩ := mapM_at he i (by simp [hi])
      rw [Option.bind_eq_some_iff] at hy
      obtain ⟨es, h3, h4⟩ := hy
      exact ⟨es, h3, y, h4⟩
    have hcell : ∀ (x : Addr) (es : List Value), w.cells? 0 x sz = some es → es.length = sz ∧ ∀ j u, es[j]? = some u → w.cell? (x.add j) = some u := by
      intro x es hx
      unfold World.cells? at hx
      rw [if_pos (Nat.zero_le _)] at hx
      have hlen : es.length = sz := by simpa using mapM_some_length hx
      refine ⟨hlen, fun j u hu => ?_⟩
      have hj : j < sz := by rw [← hlen]; exact (List.getElem?_eq_some_iff.1 hu).1
      have := mapM_some_get hx j j (by simp [hj])
      rw [this]; exact hu
    obtain ⟨b, off, spot⟩ := a
    obtain ⟨es0, hc0, _⟩ := hat 0 hl
    obtain ⟨hl0, hcc⟩ := hcell _ _ hc0
    have hspot : spot = none := by
      have := hcc 0 _ (List.getElem?_eq_getElem (by omega))
      simpa [Addr.add] using World.cell?_spot this
    subst hspot
    refine ⟨b, off, rfl, fun i hi => ?_⟩
    obtain ⟨es, hc, y, hy⟩ := hat i hi
    obtain ⟨hl', hcc'⟩ := hcell _ _ hc
    refine ⟨es, hl', ⟨H, enc, m, y.1, y.2, hy⟩, fun j u hj => ?_⟩
    have := hcc' j u hj
    rw [Addr.add_mid, Addr.add_mid] at this
    exact this
end
end Go.Sl
