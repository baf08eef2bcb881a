/- What the laws with a loop of appends share: strings handed in, and a tail that lies in a block. -/
import Derived.Test.YtbegomjbakidmaaHa
namespace Go.Proofs.Ytbegomjbakidmaa
open Go.RowKit Go.Sl Go.ChangeMaps

theorem str_cell {w : World} {ao : Option Addr} {n cap i : Nat} {l : List (List UInt8)} {r : List UInt8} (hv : StrsAt w (.slice ao n cap) (l.map strB)) (hr : l[i]? = some r) :
    ∃ b0 off, ao = some ⟨b0, off, none⟩ ∧ ∀ W, Sat W (old w) → W.cell? ⟨b0, off + i * 1, none⟩ = some (.string (strB r)) := by
  have hne : l.map strB ≠ [] := by
    intro h
    rw [List.map_eq_nil_iff] at h
    rw [h] at hr
    simp at hr
  obtain ⟨_, _, e, h0⟩ := id hv
  obtain ⟨b0, off, e0, _⟩ := h0 hne
  injection e with e1
  refine ⟨b0, off, e1.trans e0, fun W hW => ?_⟩
  obtain ⟨_, _, e', h0'⟩ := hv.old1 hW
  obtain ⟨b1, off1, e1', hc⟩ := h0' hne
  injection e' with e2
  rw [← e2, e1, e0] at e1'
  cases e1'
  exact hc i (strB r) (by rw [List.getElem?_map, hr]; rfl)
theorem t_range {w : World} {B : Nat} {t : TailM} {X : HProp} (h : Sat w (pts B (.cells (tailA t) TTail (0, 0)) * X)) : w.rangeAt B 0 (tailA t).toList := by
  have h1 := cells_at h.block
  intro j x hx
  rw [h1, Nat.zero_add]
  simpa using hx
theorem t_thawed {w : World} {B : Nat} {t : TailM} {X : HProp} (h : Sat w (pts B (.cells (tailA t) TTail (0, 0)) * X)) : w.frozen? ⟨B, 0, none⟩ = false ∧ w.frozen? ⟨B, 1, none⟩ = false ∧ w.frozen? ⟨B, 2, none⟩ = false ∧ w.frozen? ⟨B, 3, none⟩ = false := by
  have h1 := thawed_at h.block
  exact ⟨h1 0, h1 1, h1 2, h1 3⟩
theorem t_put {w w0 : World} {B : Nat} {t : TailM} {X : HProp} (hm : Same w0 w) (h : Sat w (pts B (.cells (tailA t) TTail (0, 0)) * X)) (a b c d : Int) :
    Same w0 ((((w.setCell ⟨B, 0, none⟩ (.int .i64 a)).setCell ⟨B, 1, none⟩ (.int .i64 b)).setCell ⟨B, 2, none⟩ (.int .i64 c)).setCell ⟨B, 3, none⟩ (.int .i64 d)) ∧
    Sat ((((w.setCell ⟨B, 0, none⟩ (.int .i64 a)).setCell ⟨B, 1, none⟩ (.int .i64 b)).setCell ⟨B, 2, none⟩ (.int .i64 c)).setCell ⟨B, 3, none⟩ (.int .i64 d)) (pts B (.cells (tailA ⟨a, b, ⟨c, d⟩⟩) TTail (0, 0)) * X) :=
  ⟨(((hm.setCell _ _).setCell _ _).setCell _ _).setCell _ _, (((h.setCell (i := 0) (.int .i64 a)).setCell (i := 1) (.int .i64 b)).setCell (i := 2) (.int .i64 c)).setCell (i := 3) (.int .i64 d)⟩
theorem StrsAt.takeAt {w : World} {ao : Option Addr} {n cap k c : Nat} {l : List ByteArray} (h : StrsAt w (.slice ao n cap) l) (hk : k ≤ l.length) : StrsAt w (.slice ao k c) (l.take k) := by
  obtain ⟨ao', cap', e, h0⟩ := h
  injection e with e1 e2 e3
  subst e1 e2
  refine ⟨_, _, by rw [List.length_take, Nat.min_eq_left hk], fun hne => ?_⟩
  obtain ⟨b, off, rfl, hc⟩ := h0 (by rintro rfl; simp at hne)
  refine ⟨b, off, rfl, fun j x hx => hc j x ?_⟩
  rw [List.getElem?_take] at hx
  split at hx
  · exact hx
  · cases hx
end Go.Proofs.Ytbegomjbakidmaa
