/- The scripts that the laws of layer 27 are handed. -/
import Derived.Test.YtednjhlkhecihaaGreatDoorWd
import Derived.Test.YtednjhlkhecihaaGreatDoorZl
namespace Go.Proofs.YtednjhlkhecihaaGreatDoor
open Go.RowKit Go.Sl Go.ChangeMaps Go.Vol

def vopA (o : VOp) : List Value := [.int .i64 o.d, .int .i64 o.a, .int .i64 o.b, .int .i64 o.c]
set_option maxRecDepth 20000 in
theorem rd_vop {w : World} {cs : List Value} (h : Rd Tryz.prog w TVOp cs) : ∃ o, cs = vopA o := by
  obtain ⟨hl, hf⟩ := Rd.struct Tryz.underlying33 h
  rw [show Tryz.prog.cellsOf TVOp = 4 by kernel_rfl] at hl
  have k1 : Tryz.prog.cellsOf 3 = 1 := by kernel_rfl
  match cs, hl with
  | [a0, a1, a2, a3], _ =>
    simp only [List.mem_cons, List.not_mem_nil, or_false, forall_eq_or_imp, forall_eq, k1, List.drop_zero, List.drop_succ_cons, List.take_succ_cons, List.take_zero] at hf
    obtain ⟨h0, h1, h2, h3⟩ := hf
    obtain ⟨n0, e0, _⟩ := Rd.int Tryz.underlying3 h0
    obtain ⟨n1, e1, _⟩ := Rd.int Tryz.underlying3 h1
    obtain ⟨n2, e2, _⟩ := Rd.int Tryz.underlying3 h2
    obtain ⟨n3, e3, _⟩ := Rd.int Tryz.underlying3 h3
    refine ⟨⟨n0, n1, n2, n3⟩, ?_⟩
    simp at e0 e1 e2 e3
    subst e0 e1 e2 e3
    rfl
/-- A script: its operations lie one behind the other. -/
def ScrV (w : World) (v : Value) (l : List VOp) : Prop := ∃ ao cap, v = .slice ao l.length cap ∧ l.length ≤ maxLen ∧ (l ≠ [] → ∃ b off, ao = some ⟨b, off, none⟩ ∧ ∀ j o, l[j]? = some o → ∀ i u, (vopA o)[i]? = some u → w.cell? ⟨b, off + j * 4 + i, none⟩ = some u)
theorem rd_vscript {w : World} {cs : List Value} (h : Rd Tryz.prog w 22 cs) : ∃ v l, cs = [v] ∧ ScrV w v l := by
  obtain ⟨ao, len, cap, rfl, hm, hc⟩ := Rd.slice (sz := 4) Tryz.underlying22 (by kernel_rfl) (by decide) h
  by_cases h0 : len = 0
  · subst h0
    exact ⟨_, [], rfl, ⟨ao, cap, rfl, Nat.zero_le _, fun h => absurd rfl h⟩⟩
  · obtain ⟨b, off, rfl, hi⟩ := hc (by omega)
    obtain ⟨l, hl, hp⟩ := list_of (p := fun j (o : VOp) => ∀ i u, (vopA o)[i]? = some u → w.cell? ⟨b, off + j * 4 + i, none⟩ = some u) len (by
      intro i hlt
      obtain ⟨es, _, hr, hcell⟩ := hi i hlt
      obtain ⟨o, rfl⟩ := rd_vop hr
      exact ⟨o, hcell⟩)
    subst hl
    exact ⟨_, l, rfl, ⟨some ⟨b, off, none⟩, cap, rfl, hm, fun _ => ⟨b, off, rfl, hp⟩⟩⟩
theorem trod_rd {H : Type} {enc : TypeId × Value → H} {w : World} {t : TypeId} {v : Value} {d : DataW H} {ps : List MemPlace} (h : DataW.Trod enc Tryz.prog w 0 (fun _ => true) true t v d ps) : Rd Tryz.prog w t v.cells.toList := by
  obtain ⟨fuel, h⟩ := h
  exact ⟨H, enc, fuel, d, ps, h⟩
end Go.Proofs.YtednjhlkhecihaaGreatDoor
