/- VolumesSeparate: an operation on one volume, or on a snapshot, changes no other volume. Printed by zw27.py. -/
import Derived.Test.YtednjhlkhecihaaDoorWc
import Derived.Test.YtednjhlkhecihaaDoorWv
import Derived.Test.YtednjhlkhecihaaDoorZv
namespace Go.Proofs.YtednjhlkhecihaaDoor
open Go.RowKit Go.Vol Go.Sl Go.ChangeMaps Go.ChangeShapes Go.WideShapes Go.ChangeAt

/-- What lies in a world: spaces, and rows of mappings. -/
structure FactsV (w : World) (sp : List (Nat × SpaceM)) (rw : List (Value × List (Nat × Int))) (W : World) : Prop where
  bl : Below w.heap.size w W
  sp : ∀ x ∈ sp, SpaceAt TNode TSp W x.1 x.2
  rw : ∀ x ∈ rw, RowsAt W x.1 x.2.length (x.2.flatMap refE)
theorem FactsV.next {w W W' : World} {sp : List (Nat × SpaceM)} {rw : List (Value × List (Nat × Int))} (h : FactsV w sp rw W) (hb : Below W.heap.size W W') : FactsV w sp rw W' :=
  ⟨h.bl.trans (hb.mono h.bl.size), fun x hx => (h.sp x hx).below hb, fun x hx => (h.rw x hx).below hb⟩
theorem FactsV.addS {w W : World} {sp : List (Nat × SpaceM)} {rw : List (Value × List (Nat × Int))} (h : FactsV w sp rw W) {p : Nat} {S : SpaceM} (hs : SpaceAt TNode TSp W p S) : FactsV w ((p, S) :: sp) rw W :=
  ⟨h.bl, fun x hx => by rcases List.mem_cons.1 hx with rfl | hx; exact hs; exact h.sp x hx, h.rw⟩
theorem FactsV.start {w W : World} {p : Nat} {S : SpaceM} (hb : Below w.heap.size w W) (hs : SpaceAt TNode TSp W p S) : FactsV w [(p, S)] [] W :=
  FactsV.addS (sp := []) ⟨hb, fun x hx => absurd hx (by simp), fun x hx => absurd hx (by simp)⟩ hs
theorem FactsV.addR {w W : World} {sp : List (Nat × SpaceM)} {rw : List (Value × List (Nat × Int))} (h : FactsV w sp rw W) {v : Value} {A : List (Nat × Int)} (hs : RowsAt W v A.length (A.flatMap refE)) : FactsV w sp ((v, A) :: rw) W :=
  ⟨h.bl, h.sp, fun x hx => by rcases List.mem_cons.1 hx with rfl | hx; exact hs; exact h.rw x hx⟩

end Go.Proofs.YtednjhlkhecihaaDoor
