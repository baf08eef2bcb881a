/- VolumeSnapshotsStay: a snapshot maps the same blocks to the same chunks, whatever is done afterwards, until it is dropped; and a space that was returned earlier does not change. Printed by zw27.py. -/
import Derived.Test.YtednjhlkhecihaaDoorWc
import Derived.Test.YtednjhlkhecihaaDoorWv
import Derived.Test.YtednjhlkhecihaaDoorZw
namespace Go.Proofs.YtednjhlkhecihaaDoor
open Go.RowKit Go.Vol Go.Sl Go.ChangeMaps Go.ChangeShapes Go.WideShapes Go.ChangeAt

/-- The second loop: the snapshot is kept. -/
structure StayV (w : World) (l : List VOp) (sp : List (Nat × SpaceM)) (rw : List (Value × List (Nat × Int))) (snap : Int) (q : PartM) (s i : Value) (wr : World) : Prop where
  st : ∃ (k p : Nat) (T : SpaceM), k ≤ l.length ∧ i = .int .i64 (k : Int) ∧ s = .pointer (some ⟨p, 0, none⟩) ∧ Hid (FactsV w ((p, T) :: sp) rw wr ∧ T.WF ∧ snapF T snap = some q)
theorem snap_keep {S : SpaceM} {vol : Int} (hw : S.WF) (h0 : (contM S vol).2 = 0) (h1 : (stepM S ⟨6, vol, 0, 0⟩).e = 0) : ∃ q, snapF (doM S ⟨6, vol, 0, 0⟩) (stepM S ⟨6, vol, 0, 0⟩).id = some q ∧ (contM S vol).1 = items q.m := by
  obtain ⟨p, hp⟩ := contM_ok h0
  have hs : stepM S ⟨6, vol, 0, 0⟩ = S.snapshot vol := by simp [stepM]
  rw [hs] at h1 ⊢
  rcases snapshot_link S vol with ⟨_, T, hT⟩ | ⟨h, _⟩
  · obtain ⟨q, h2, h3⟩ := snapshot_new hw hT hp
    have hd : doM S ⟨6, vol, 0, 0⟩ = T := by unfold doM; rw [hs, hT]
    rw [hd]
    exact ⟨q, h2, by unfold contM; rw [hp, h3]⟩
  · exact absurd h1 h
theorem imageM_of {S : SpaceM} {v : Int} {q : PartM} (h : snapF S v = some q) : imageM S v = (items q.m, 0) := by unfold imageM; rw [h]

end Go.Proofs.YtednjhlkhecihaaDoor
