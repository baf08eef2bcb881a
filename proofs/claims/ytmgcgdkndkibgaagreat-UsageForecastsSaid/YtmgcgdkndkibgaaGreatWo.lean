/- The scripts that the laws of layer 27 are handed. -/
import Derived.Test.YtmgcgdkndkibgaaGreatWd
import Derived.Test.YtmgcgdkndkibgaaGreatZl
namespace Go.Proofs.YtmgcgdkndkibgaaGreat
open Go.RowKit Go.Sl Go.ChangeMaps Go.Vol

def vopA (o : VOp) : List Value := [.int .i64 o.d, .int .i64 o.a, .int .i64 o.b, .int .i64 o.c]
/-- A script: its operations lie one behind the other. -/
def ScrV (w : World) (v : Value) (l : List VOp) : Prop := ∃ ao cap, v = .slice ao l.length cap ∧ l.length ≤ maxLen ∧ (l ≠ [] → ∃ b off, ao = some ⟨b, off, none⟩ ∧ ∀ j o, l[j]? = some o → ∀ i u, (vopA o)[i]? = some u → w.cell? ⟨b, off + j * 4 + i, none⟩ = some u)
theorem trod_rd {H : Type} {enc : TypeId × Value → H} {w : World} {t : TypeId} {v : Value} {d : DataW H} {ps : List MemPlace} (h : DataW.Trod enc Tryz.prog w 0 (fun _ => true) true t v d ps) : Rd Tryz.prog w t v.cells.toList := by
  obtain ⟨fuel, h⟩ := h
  exact ⟨H, enc, fuel, d, ps, h⟩
end Go.Proofs.YtmgcgdkndkibgaaGreat
