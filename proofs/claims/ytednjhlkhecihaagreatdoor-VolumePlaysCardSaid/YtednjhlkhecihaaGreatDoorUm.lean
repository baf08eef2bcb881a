/- Between two rounds of a law of 27 that plays beside the specification: the program's space, the specified one and its box. -/
import Derived.Test.YtednjhlkhecihaaGreatDoorUf
import Derived.Test.YtednjhlkhecihaaGreatDoorUg
import Derived.Test.YtednjhlkhecihaaGreatDoorWs
namespace Go.Proofs.YtednjhlkhecihaaGreatDoor
open Go.RowKit Go.Vol Go.Sl

theorem NodeOk.noBox {T TR : TypeId} {ok : Nat → Prop} {w : World} {N : Nat} {cs : Array Value} (hT : T ≠ TR) (hR : w.heap[N]? = some (.cells cs TR (0, 0))) : ∀ {L : Nat} {v : Value} {m : MapM}, NodeOk T ok w L v m → NodeOk T (fun b => b ≠ N) w L v m
  | 0, v, m, h => by
    rcases h with h | ⟨b, h1, h2, h3, h4⟩
    · exact .inl h
    · refine .inr ⟨b, h1, h2, h3, ?_⟩
      intro e
      rw [e, hR] at h3
      simp only [Option.some.injEq, Obj.cells.injEq] at h3
      exact hT h3.2.1.symm
  | L + 1, v, m, h => by
    rcases h with h | ⟨b, kids, h1, h2, h3, h4, h5, h6⟩
    · exact .inl h
    · refine .inr ⟨b, kids, h1, h2, h3, h4, fun j k hj => NodeOk.noBox hT hR (h5 j k hj), ?_⟩
      intro e
      rw [e, hR] at h4
      simp only [Option.some.injEq, Obj.cells.injEq] at h4
      exact hT h4.2.1.symm
theorem rows_noBox {w w' : World} {v : Value} {n N : Nat} {Lr : List Value} {a : Option Addr} {x c : Nat} {y : Value} {T : TypeId} (h : RowsAt w v n Lr) (hL : 0 < n → ∃ i : Int, Lr[0]? = some (.int .i64 i)) (hR : w.heap[N]? = some (.cells #[.slice a x c, y] T (0, 0)))
    (hs : w.heap.size ≤ w'.heap.size) (hk : ∀ k, k ≠ N → k < w.heap.size → w'.heap[k]? = w.heap[k]?) : RowsAt w' v n Lr := by
  obtain ⟨ao, cap, h1, h2, h3, h4⟩ := h
  refine ⟨ao, cap, h1, h2, h3, fun hn => ?_⟩
  obtain ⟨b, h5, h6, h7⟩ := h4 hn
  obtain ⟨i, hi⟩ := hL hn
  have hne : b ≠ N := by
    intro e
    have := h7 0 _ hi
    rw [e, cells_at hR] at this
    simp at this
  exact ⟨b, h5, by omega, fun j u hu => by rw [World.cell?_of_block (w := w) (hk b hne h6)]; exact h7 j u hu⟩
theorem space_noBox {w w' : World} {p N : Nat} {S : SpaceM} {a : Option Addr} {x c : Nat} {y : Value} (h : SpaceAt TNode TSp w p S) (hR : w.heap[N]? = some (.cells #[.slice a x c, y] TRS (0, 0)))
    (hs : w.heap.size ≤ w'.heap.size) (hk : ∀ k, k ≠ N → k < w.heap.size → w'.heap[k]? = w.heap[k]?) : SpaceAt TNode TSp w' p S := by
  obtain ⟨lv, ls, h1, h2, ⟨vv, vs, hp, hv, hs2⟩, he1, he2⟩ := h
  have hpN : p ≠ N := by
    intro e
    rw [e, hR] at hp
    simp only [Option.some.injEq, Obj.cells.injEq] at hp
    exact absurd hp.2.1 (by decide)
  refine ⟨lv, ls, h1, h2, ⟨vv, vs, by rw [hk p hpN (Array.getElem?_eq_some_iff.1 hp).1]; exact hp, ?_, ?_⟩, ?_, ?_⟩
  · refine rows_noBox hv (fun hn => ?_) hR hs hk
    cases lv with
    | nil => simp at hn
    | cons z r => exact ⟨z.1.id, by simp [volE]⟩
  · refine rows_noBox hs2 (fun hn => ?_) hR hs hk
    cases ls with
    | nil => simp at hn
    | cons z r => exact ⟨z.1.id, by simp [snapE]⟩
  · exact fun z hz => NodeOk.at ((NodeOk.noBox (by decide) hR (he1 z hz)).keep fun b hb hl => hk b hb hl)
  · exact fun z hz => NodeOk.at ((NodeOk.noBox (by decide) hR (he2 z hz)).keep fun b hb hl => hk b hb hl)
/-- What lies between two rounds: the program's space, the specified one and its box. -/
structure BuF (w : World) (R p : Nat) (S : SpaceM) (vv vs : Value) (W : World) : Prop where
  bl : Below w.heap.size w W
  sp : SpaceAt TNode TSp W p S
  rf : RefAt (fun b => b ≠ R) W vv vs S
  bx : W.heap[R]? = some (.cells #[vv, vs] TRS (0, 0))
structure BuSt (w : World) (R : Nat) (S0 : SpaceM) (l : List VOp) (s i : Value) (wr : World) : Prop where
  st : ∃ (k p : Nat) (vv vs : Value), k ≤ l.length ∧ i = .int .i64 (k : Int) ∧ s = .pointer (some ⟨p, 0, none⟩) ∧ Hid (BuF w R p (runV S0 (l.take k)) vv vs wr)
theorem BuF.next {w W W' : World} {R p : Nat} {S : SpaceM} {vv vs : Value} (h : BuF w R p S vv vs W) (hb : Below W.heap.size W W') : BuF w R p S vv vs W' :=
  ⟨h.bl.trans (hb.mono h.bl.size), h.sp.below hb, h.rf.below hb, (hb.block R (Array.getElem?_eq_some_iff.1 h.bx).1).trans h.bx⟩
theorem rs_sl {ok : Nat → Prop} {W : World} {vv vs : Value} {S : SpaceM} (h : RefAt ok W vv vs S) : ∃ a c x y, vv = .slice a S.vols.length c ∧ vs = .slice x S.snaps.length y := by
  obtain ⟨a, c, h1, _⟩ := h.v.slice
  obtain ⟨x, y, h2, _⟩ := h.s.slice
  exact ⟨a, c, x, y, h1, h2⟩
/-- The box is written: the new specified space takes the place of the old one. -/
theorem BuF.put {w W : World} {R p q : Nat} {S T : SpaceM} {vv vs xa xs : Value} (h : BuF w R p S vv vs W) (hw : w.heap.size ≤ R) (hs : SpaceAt TNode TSp W q T) (hr : RefAt (fun b => b ≠ R) W xa xs T) : BuF w R q T xa xs ((W.setCell ⟨R, 0, none⟩ xa).setCell ⟨R, 1, none⟩ xs) := by
  obtain ⟨a, c, x, y, rfl, rfl⟩ := rs_sl h.rf
  have hk : ∀ k, k ≠ R → ((W.setCell ⟨R, 0, none⟩ xa).setCell ⟨R, 1, none⟩ xs).heap[k]? = W.heap[k]? := fun k hk => (heap_setCell_other _ _ _ _ hk).trans (heap_setCell_other _ _ _ _ hk)
  refine ⟨(h.bl.setCell (p := ⟨R, 0, none⟩) hw xa).setCell (p := ⟨R, 1, none⟩) hw xs, space_noBox hs h.bx (by simp [World.setCell]) fun k h1 _ => hk k h1, hr.keep (by simp [World.setCell]) fun b hb _ => hk b hb, ?_⟩
  exact (((sat_block h.bx).setCell (i := 0) xa).setCell (i := 1) xs).block

end Go.Proofs.YtednjhlkhecihaaGreatDoor
