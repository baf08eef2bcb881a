/- VolumeLastWrite. -/
import Derived.Test.YtednjhlkhecihaaDoorWs
import Derived.Test.YtednjhlkhecihaaDoorWp
import Derived.Test.YtednjhlkhecihaaDoorWo
namespace Go.Proofs.YtednjhlkhecihaaDoor
open Go.RowKit Go.Vol Go.Sl Go.ChangeMaps Go.ChangeShapes Go.WideShapes Go.ChangeAt

def runV (S : SpaceM) (l : List VOp) : SpaceM := l.foldl doM S
theorem runV_take {l : List VOp} {k : Nat} {o : VOp} (h : l[k]? = some o) (S : SpaceM) : runV S (l.take (k + 1)) = doM (runV S (l.take k)) o := by
  unfold runV
  rw [List.take_add_one, h, List.foldl_append]; rfl
theorem runV_wf {S : SpaceM} (h : S.WF) : ∀ l : List VOp, (runV S l).WF := by
  intro l
  induction l generalizing S with
  | nil => exact h
  | cons o r ih => exact ih (do_wf h)
/-- The loop over a script. -/
structure RunSt (w : World) (l : List VOp) (s i : Value) (wr : World) : Prop where
  st : ∃ k p : Nat, k ≤ l.length ∧ i = .int .i64 (k : Int) ∧ s = .pointer (some ⟨p, 0, none⟩) ∧ Hid (Below w.heap.size w wr ∧ SpaceAt TNode TSp wr p (runV SpaceM.new (l.take k)))

end Go.Proofs.YtednjhlkhecihaaDoor
