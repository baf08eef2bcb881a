/- solventref16's disk is written: how a sector's cells and the model go together; Lose, Misdirect, Write. -/
import Derived.Test.YtdeblpnkpefbcaaNa
import Derived.Test.YtdeblpnkpefbcaaSm
namespace Go.Sl
open Go Go.RowKit

theorem secsT_split (TB : TypeId) : ∀ (L : List SecV) (k : Nat), k < L.length → ∃ R, ∀ x, secsT TB (L.set k x) = secB TB x * R
  | _ :: r, 0, _ => ⟨secsT TB r, fun _ => rfl⟩
  | x :: r, k + 1, h => by
    obtain ⟨R, hR⟩ := secsT_split TB r k (by simpa using h)
    refine ⟨secB TB x * R, fun y => ?_⟩
    show secB TB x * secsT TB (r.set k y) = _
    rw [hR]; ac_rfl
theorem flat_set4 {α : Type} (enc : α → List Value) (m : Nat) (hm : ∀ x, (enc x).length = m) : ∀ (l : List α) (i : Nat) (x x' : α), l[i]? = some x → ∀ (j : Nat) (u : Value), j < m → enc x' = (enc x).set j u → (l.flatMap enc).set (i * m + j) u = (l.set i x').flatMap enc
  | [], i, x, _, h, _, _, _, _ => by simp at h
  | a :: l, 0, x, x', h, j, u, hj, he => by
    simp only [List.getElem?_cons_zero, Option.some.injEq] at h
    subst h
    rw [List.flatMap_cons, Nat.zero_mul, Nat.zero_add, List.set_append_left _ _ (by rw [hm]; exact hj), List.set_cons_zero, List.flatMap_cons, he]
  | a :: l, i + 1, x, x', h, j, u, hj, he => by
    simp only [List.getElem?_cons_succ] at h
    have e : (i + 1) * m + j = (enc a).length + (i * m + j) := by rw [hm, Nat.succ_mul]; omega
    rw [List.flatMap_cons, e, List.set_append_right _ _ (Nat.le_add_right _ _), Nat.add_sub_cancel_left, flat_set4 enc m hm l i x x' h j u hj he, List.set_cons_succ, List.flatMap_cons]
theorem sec_store {T : TypeId} {w : World} {g n cap : Nat} {L : List SecV} {F : HProp} (h : Sat w (ownAt T 4 (.slice (some ⟨g, 0, none⟩) n cap) L.length (L.flatMap secE) * F)) {k : Nat} {x : SecV} (hx : L[k]? = some x) (x' : SecV) (j : Nat) (u : Value) (hj : j < 4) (he : secE x' = (secE x).set j u) :
    Sat (w.setCell ⟨g, k * 4 + j, none⟩ u) (ownAt T 4 (.slice (some ⟨g, 0, none⟩) n cap) (L.set k x').length ((L.set k x').flatMap secE) * F) := by
  have hk := (List.getElem?_eq_some_iff.1 hx).1
  obtain ⟨g', cap', cur, e, _, _, _, _, _⟩ := ownAt_block h (by omega)
  have e2 := e
  simp only [Value.slice.injEq] at e2
  have h2 := ownAt_set h (by omega) (g := g) (cap := cap) (by rw [e2.2.1]) (j := k * 4 + j) u
  rw [flat_set4 secE 4 secE_len L k x x' hx j u hj he] at h2
  rw [List.length_set]; exact h2
theorem sec_thawed {T : TypeId} {w : World} {g n cap : Nat} {L : List SecV} {F : HProp} (h : Sat w (ownAt T 4 (.slice (some ⟨g, 0, none⟩) n cap) L.length (L.flatMap secE) * F)) (hn : 0 < L.length) (j : Nat) : w.frozen? ⟨g, j, none⟩ = false := by
  obtain ⟨g', cap', cur, e, _, _, hf, _, _⟩ := ownAt_block h hn
  simp only [Value.slice.injEq, Option.some.injEq, Addr.mk.injEq] at e
  rw [e.1.1]; exact hf j
theorem set_get {α : Type} {L : List α} {k i : Nat} {x y : α} (h : (L.set k x)[i]? = some y) : (i = k ∧ y = x) ∨ (i ≠ k ∧ L[i]? = some y) := by
  rw [List.getElem?_set] at h
  split at h
  · rename_i e
    split at h
    · exact .inl ⟨e.symm, (Option.some.inj h).symm⟩
    · cases h
  · rename_i e; exact .inr ⟨fun h => e h.symm, h⟩
def armI (o : Option Int) : Int := match o with
  | none => -2
  | some j => j
def SecM.arm (x : SecM) (f : Int) : SecM := { x with fault := f }
def SecM.put (x : SecM) (s : List UInt8) : SecM := { x with cac := s, pend := true }
def SecM.settle (x : SecM) (t : List UInt8) : SecM := { x with dur := t, pend := false }
theorem RefOf.arm {D : DiskM} {L : List SecV} (h : RefOf D L) {k : Nat} {x : SecV} (hx : L[k]? = some x) (o : Option Int) : RefOf { D with armed := fupd D.armed k o } (L.set k (x.1.arm (armI o), x.2)) := by
  refine ⟨by rw [List.length_set]; exact h.len, fun i y hy => ?_, fun i y hy => ?_, fun i y s hy hs => ?_, fun i y hy => ?_⟩
  · rcases set_get hy with ⟨rfl, rfl⟩ | ⟨_, h2⟩
    · exact h.dur i x hx
    · exact h.dur i y h2
  · rcases set_get hy with ⟨rfl, rfl⟩ | ⟨_, h2⟩
    · exact h.pend i x hx
    · exact h.pend i y h2
  · rcases set_get hy with ⟨rfl, rfl⟩ | ⟨_, h2⟩
    · exact h.cac i x s hx hs
    · exact h.cac i y s h2 hs
  · rcases set_get hy with ⟨rfl, rfl⟩ | ⟨hne, h2⟩
    · show armI o = (match fupd D.armed i o i with | none => -2 | some j => j)
      unfold fupd; rw [if_pos rfl]; rfl
    · rw [h.fault i y h2]
      show (match D.armed i with | none => -2 | some j => j) = (match fupd D.armed k o i with | none => -2 | some j => j)
      unfold fupd; rw [if_neg hne]
theorem RefOf.put {D : DiskM} {L : List SecV} (h : RefOf D L) {k : Nat} {x : SecV} (hx : L[k]? = some x) (s : List UInt8) (v : Value) : RefOf { D with cache := fupd D.cache k (some s) } (L.set k (x.1.put s, x.2.1, v)) := by
  refine ⟨by rw [List.length_set]; exact h.len, fun i y hy => ?_, fun i y hy => ?_, fun i y t hy hs => ?_, fun i y hy => ?_⟩
  · rcases set_get hy with ⟨rfl, rfl⟩ | ⟨_, h2⟩
    · exact h.dur i x hx
    · exact h.dur i y h2
  · rcases set_get hy with ⟨rfl, rfl⟩ | ⟨hne, h2⟩
    · show true = (fupd D.cache i (some s) i).isSome
      unfold fupd; rw [if_pos rfl]; rfl
    · rw [h.pend i y h2]
      show _ = (fupd D.cache k (some s) i).isSome
      unfold fupd; rw [if_neg hne]
  · rcases set_get hy with ⟨rfl, rfl⟩ | ⟨hne, h2⟩
    · have hs' : fupd D.cache i (some s) i = some t := hs
      unfold fupd at hs'; rw [if_pos rfl] at hs'
      exact Option.some.inj hs'
    · have hs' : fupd D.cache k (some s) i = some t := hs
      unfold fupd at hs'; rw [if_neg hne] at hs'
      exact h.cac i y t h2 hs'
  · rcases set_get hy with ⟨rfl, rfl⟩ | ⟨_, h2⟩
    · exact h.fault i x hx
    · exact h.fault i y h2
theorem RefOf.settle {D : DiskM} {L : List SecV} (h : RefOf D L) {k : Nat} {x : SecV} (hx : L[k]? = some x) (t : List UInt8) (v : Value) : RefOf { D with dur := fupd D.dur k t, cache := fupd D.cache k none } (L.set k (x.1.settle t, v, x.2.2)) := by
  refine ⟨by rw [List.length_set]; exact h.len, fun i y hy => ?_, fun i y hy => ?_, fun i y s hy hs => ?_, fun i y hy => ?_⟩
  · rcases set_get hy with ⟨rfl, rfl⟩ | ⟨hne, h2⟩
    · show t = fupd D.dur i t i
      unfold fupd; rw [if_pos rfl]
    · rw [h.dur i y h2]
      show _ = fupd D.dur k t i
      unfold fupd; rw [if_neg hne]
  · rcases set_get hy with ⟨rfl, rfl⟩ | ⟨hne, h2⟩
    · show false = (fupd D.cache i none i).isSome
      unfold fupd; rw [if_pos rfl]; rfl
    · rw [h.pend i y h2]
      show _ = (fupd D.cache k none i).isSome
      unfold fupd; rw [if_neg hne]
  · rcases set_get hy with ⟨rfl, rfl⟩ | ⟨hne, h2⟩
    · have hs' : fupd D.cache i none i = some s := hs
      unfold fupd at hs'; rw [if_pos rfl] at hs'; cases hs'
    · have hs' : fupd D.cache k none i = some s := hs
      unfold fupd at hs'; rw [if_neg hne] at hs'
      exact h.cac i y s h2 hs'
  · rcases set_get hy with ⟨rfl, rfl⟩ | ⟨_, h2⟩
    · exact h.fault i x hx
    · exact h.fault i y h2
end Go.Sl
namespace Go.Proofs.Ytdeblpnkpefbcaa
open Go.RowKit Go.Sl Go.ChangeMaps

theorem ref_n {D : DiskM} {L : List SecV} (h : RefOf D L) (i : Int) : D.has i = (decide (0 ≤ i) && decide (i < (L.length : Int))) := by unfold DiskM.has; rw [h.len]
theorem in_true {i : Int} {n : Nat} (h : 0 ≤ i ∧ i < (n : Int)) : (decide (0 ≤ i) && decide (i < (n : Int))) = true := by rw [decide_eq_true h.1, decide_eq_true h.2]; rfl
theorem in_false {i : Int} {n : Nat} (h : ¬ (0 ≤ i ∧ i < (n : Int))) : (decide (0 ≤ i) && decide (i < (n : Int))) = false := by
  cases e : (decide (0 ≤ i) && decide (i < (n : Int)))
  · rfl
  · rw [Bool.and_eq_true, decide_eq_true_eq, decide_eq_true_eq] at e; exact absurd e h
/-- The disk with its sectors in hand. -/
def refO (p g n cap : Nat) (L : List SecV) (F : HProp) : HProp := pts p (.cells #[.slice (some ⟨g, 0, none⟩) n cap] TRk (0, 0)) * (ownAt TRs 4 (.slice (some ⟨g, 0, none⟩) n cap) L.length (L.flatMap secE) * (secsT TU8 L * F))
theorem refO_refD {p g n cap : Nat} {L : List SecV} {F : HProp} {D : DiskM} {w : World} (hwf : D.WF) (hr : RefOf D L) (h : Sat w (refO p g n cap L F)) : Sat w (refD RT p D * F) := refD_iff.2 ⟨_, L, ⟨hwf, hr⟩, h⟩
theorem refO_cells {p g n cap : Nat} {L : List SecV} {F : HProp} {w : World} (h : Sat w (refO p g n cap L F)) {k : Nat} {x : SecV} (hx : L[k]? = some x) :
    w.cell? ⟨p, 0, none⟩ = some (.slice (some ⟨g, 0, none⟩) n cap) ∧ w.cell? ⟨g, k * 4, none⟩ = some x.2.1 ∧ w.cell? ⟨g, k * 4 + 1, none⟩ = some x.2.2 ∧ w.cell? ⟨g, k * 4 + 2, none⟩ = some (.bool x.1.pend) ∧ w.cell? ⟨g, k * 4 + 3, none⟩ = some (.int .i64 x.1.fault) ∧ ∀ j, w.frozen? ⟨g, j, none⟩ = false := by
  obtain ⟨g', e, e0, e1, e2, e3⟩ := sec_cells (Sat.right h) hx
  simp only [Option.some.injEq, Addr.mk.injEq, and_true] at e
  obtain rfl := e
  exact ⟨cells_at (Sat.block h) 0, e0, e1, e2, e3, fun j => sec_thawed (Sat.right h) (by have := (List.getElem?_eq_some_iff.1 hx).1; omega) j⟩
theorem refO_store {p g n cap : Nat} {L : List SecV} {F : HProp} {w : World} (h : Sat w (refO p g n cap L F)) {k : Nat} {x : SecV} (hx : L[k]? = some x) (x' : SecV) (j : Nat) (u : Value) (hj : j < 4) (he : secE x' = (secE x).set j u) {G : HProp} (hG : secB TU8 x * F = secB TU8 x' * G) : Sat (w.setCell ⟨g, k * 4 + j, none⟩ u) (refO p g n cap (L.set k x') G) := by
  have hk := (List.getElem?_eq_some_iff.1 hx).1
  obtain ⟨R, hR⟩ := secsT_split TU8 L k hk
  have e := hR x
  rw [set_self hx] at e
  unfold refO at h ⊢
  have h1 := sec_store (h.perm (show _ = ownAt TRs 4 (.slice (some ⟨g, 0, none⟩) n cap) L.length (L.flatMap secE) * (pts p (.cells #[.slice (some ⟨g, 0, none⟩) n cap] TRk (0, 0)) * (secsT TU8 L * F)) from by ac_rfl)) hx x' j u hj he
  rw [e] at h1
  rw [hR]
  refine h1.perm ?_
  have e2 : secB TU8 x * R * F = secB TU8 x' * R * G := by
    rw [show secB TU8 x * R * F = R * (secB TU8 x * F) from by ac_rfl, hG]; ac_rfl
  rw [e2]; ac_rfl
theorem refO_drop {p g n cap : Nat} {L : List SecV} {R F : HProp} {w : World} (h : Sat w (refO p g n cap L (R * F))) : Sat w (refO p g n cap L F) := by
  unfold refO at h ⊢
  exact (h.perm (show _ = R * (pts p (.cells #[.slice (some ⟨g, 0, none⟩) n cap] TRk (0, 0)) * (ownAt TRs 4 (.slice (some ⟨g, 0, none⟩) n cap) L.length (L.flatMap secE) * (secsT TU8 L * F))) from by ac_rfl)).right
theorem refO_arm {p g n cap : Nat} {L : List SecV} {F : HProp} {w : World} (h : Sat w (refO p g n cap L F)) {k : Nat} {x : SecV} (hx : L[k]? = some x) (f : Int) : Sat (w.setCell ⟨g, k * 4 + 3, none⟩ (.int .i64 f)) (refO p g n cap (L.set k (x.1.arm f, x.2)) F) :=
  refO_store h hx (x.1.arm f, x.2) 3 (.int .i64 f) (by omega) rfl rfl
def cacd (x : SecM) (s : List UInt8) : SecM := { x with cac := s }
theorem secB_cac (x : SecV) (s : List UInt8) (v : Value) (F : HProp) : secB TU8 x * (rowB TU8 v s * F) = secB TU8 (cacd x.1 s, x.2.1, v) * (rowB TU8 x.2.2 x.1.cac * F) := by
  show rowB TU8 x.2.1 x.1.dur * rowB TU8 x.2.2 x.1.cac * (rowB TU8 v s * F) = rowB TU8 x.2.1 x.1.dur * rowB TU8 v s * (rowB TU8 x.2.2 x.1.cac * F)
  ac_rfl
/-- The bytes of a string, in a row of their own. -/
theorem conv_new (s : List UInt8) (W : World) {P : HProp} (h : Sat W P) : ∃ W' cap, (convert 9 56 (.string (strW s))).run Try.prog W = .ok (.slice (some ⟨W.heap.size, 0, none⟩) s.length cap) W' ∧
    Same W W' ∧ Sat W' (rowB TU8 (.slice (some ⟨W.heap.size, 0, none⟩) s.length cap) s * P) := by
  have hr := run_bytes_of_string (P := Try.prog) W 9 56 5 (strW s) Try.underlying9 Try.underlying56 Try.underlying5
  have hsz : (strW s).size = s.length := by show s.toArray.size = _; simp
  rw [hsz] at hr
  refine ⟨_, _, hr, ((Same.refl W).drew).alloc _, rowB_iff.2 (.inr ⟨W.heap.size, _, _, _, ⟨rfl, by have := grownCap_ge W (strW s).size 0 5; rw [hsz] at this; exact this, fun j u hu => ?_⟩, h.drew.alloc _⟩)⟩
  have hj : j < s.length := by have := (List.getElem?_eq_some_iff.1 hu).1; simpa [bytesL] using this
  simp only [bytesL, List.getElem?_map] at hu
  unfold bytesRow
  rw [Array.getElem?_append_left (by simpa [strW] using hj)]
  simpa [strW] using hu
end Go.Proofs.Ytdeblpnkpefbcaa
