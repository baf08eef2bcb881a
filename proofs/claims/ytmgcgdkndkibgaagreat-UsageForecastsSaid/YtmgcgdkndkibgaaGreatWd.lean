/- solventlaw27.do. Printed by vd.py. -/
import Derived.Test.YtmgcgdkndkibgaaGreatVj
import Derived.Test.YtmgcgdkndkibgaaGreatVq
namespace Go.Vol
structure VOp where
  d : Int
  a : Int
  b : Int
  c : Int
def stepM (S : SpaceM) (o : VOp) : ResM :=
  if o.d = 1 then S.create o.a empty else if o.d = 2 then S.delete o.a else if o.d = 3 then S.give o.a o.b else if o.d = 4 then S.map o.a o.b o.c else if o.d = 5 then S.unmap o.a o.b
  else if o.d = 6 then S.snapshot o.a else if o.d = 7 then S.drop o.a else if o.d = 8 then S.clone o.a o.b else if o.d = 9 then S.restore o.a o.b else ⟨some S, 0, 0⟩
def doM (S : SpaceM) (o : VOp) : SpaceM := match (stepM S o).sp with
  | some T => T
  | none => S
/-- An error and no space, or a space and no error. -/
def ResM.Link (R : ResM) : Prop := (R.e = 0 ∧ ∃ T, R.sp = some T) ∨ (R.e ≠ 0 ∧ R.sp = none)
theorem create_link (S : SpaceM) (t : Int) (m : MapM) : (S.create t m).Link := by
  unfold SpaceM.create ResM.Link
  split
  · exact .inr ⟨by decide, rfl⟩
  · split
    · exact .inr ⟨by decide, rfl⟩
    · exact .inl ⟨rfl, _, rfl⟩
theorem delete_link (S : SpaceM) (v : Int) : (S.delete v).Link := by
  unfold SpaceM.delete ResM.Link
  split
  · exact .inr ⟨by decide, rfl⟩
  · exact .inl ⟨rfl, _, rfl⟩
theorem change_link (S : SpaceM) (v : Int) (ok : Bool) (f : PartM → PartM) : (S.change v ok f).Link := by
  unfold SpaceM.change ResM.Link
  split
  · exact .inr ⟨by decide, rfl⟩
  · split
    · exact .inl ⟨rfl, _, rfl⟩
    · exact .inr ⟨by decide, rfl⟩
theorem snapshot_link (S : SpaceM) (v : Int) : (S.snapshot v).Link := by
  unfold SpaceM.snapshot ResM.Link
  split
  · exact .inr ⟨by decide, rfl⟩
  · split
    · exact .inr ⟨by decide, rfl⟩
    · exact .inl ⟨rfl, _, rfl⟩
theorem drop_link (S : SpaceM) (v : Int) : (S.drop v).Link := by
  unfold SpaceM.drop ResM.Link
  split
  · exact .inr ⟨by decide, rfl⟩
  · exact .inl ⟨rfl, _, rfl⟩
theorem clone_link (S : SpaceM) (s t : Int) : (S.clone s t).Link := by
  unfold SpaceM.clone
  split
  · exact .inr ⟨by decide, rfl⟩
  · exact create_link _ _ _
theorem restore_link (S : SpaceM) (v s : Int) : (S.restore v s).Link := by
  unfold SpaceM.restore
  split
  · exact .inr ⟨by decide, rfl⟩
  · exact change_link _ _ _ _
theorem change_id (S : SpaceM) (v : Int) (ok : Bool) (f : PartM → PartM) : (S.change v ok f).id = 0 := by
  unfold SpaceM.change
  split
  · rfl
  · split <;> rfl
theorem delete_id (S : SpaceM) (v : Int) : (S.delete v).id = 0 := by unfold SpaceM.delete; split <;> rfl
theorem drop_id (S : SpaceM) (v : Int) : (S.drop v).id = 0 := by unfold SpaceM.drop; split <;> rfl
theorem restore_id (S : SpaceM) (v s : Int) : (S.restore v s).id = 0 := by
  unfold SpaceM.restore
  split
  · rfl
  · exact change_id _ _ _ _
end Go.Vol
namespace Go.Proofs.YtmgcgdkndkibgaaGreat
open Go.RowKit Go.Vol Go.Sl

theorem Res2.ok {w w' : World} {R : ResM} {e : Ending} {T : SpaceM} (h : Res2 w R e w') (h0 : R.e = 0) (hT : R.sp = some T) : ∃ p : Nat, e = .returned (.tuple #[.pointer (some ⟨p, 0, none⟩), .int .i64 0]) ∧ Hid (Below w.heap.size w w' ∧ SpaceAt TNode TSp w' p T) := by
  obtain ⟨v, rfl, hb, hs⟩ := h
  rw [hT] at hs
  obtain ⟨p, rfl, hs⟩ := hs
  exact ⟨p, by rw [h0], hb, hs⟩
theorem Res2.no {w w' : World} {R : ResM} {e : Ending} (h : Res2 w R e w') (hT : R.sp = none) : e = .returned (.tuple #[.pointer none, .int .i64 R.e]) ∧ Hid (Below w.heap.size w w') := by
  obtain ⟨v, rfl, hb, hs⟩ := h
  rw [hT] at hs
  obtain rfl : v = .pointer none := hs
  exact ⟨rfl, hb⟩
theorem Res3.ok {w w' : World} {R : ResM} {e : Ending} {T : SpaceM} (h : Res3 w R e w') (h0 : R.e = 0) (hT : R.sp = some T) : ∃ p : Nat, e = .returned (.tuple #[.pointer (some ⟨p, 0, none⟩), .int .i64 R.id, .int .i64 0]) ∧ Hid (Below w.heap.size w w' ∧ SpaceAt TNode TSp w' p T) := by
  obtain ⟨v, rfl, hb, hs⟩ := h
  rw [hT] at hs
  obtain ⟨p, rfl, hs⟩ := hs
  exact ⟨p, by rw [h0], hb, hs⟩
theorem Res3.no {w w' : World} {R : ResM} {e : Ending} (h : Res3 w R e w') (hT : R.sp = none) : e = .returned (.tuple #[.pointer none, .int .i64 R.id, .int .i64 R.e]) ∧ Hid (Below w.heap.size w w') := by
  obtain ⟨v, rfl, hb, hs⟩ := h
  rw [hT] at hs
  obtain rfl : v = .pointer none := hs
  exact ⟨rfl, hb⟩
/-- What do answers: the space's pointer, the id, the error. -/
def DoOut (w : World) (S : SpaceM) (o : VOp) (e : Ending) (w' : World) : Prop := ∃ p : Nat, e = .returned (.tuple #[.pointer (some ⟨p, 0, none⟩), .int .i64 (stepM S o).id, .int .i64 (stepM S o).e]) ∧ Hid (Below w.heap.size w w' ∧ SpaceAt TNode TSp w' p (doM S o))
theorem step_wf {S T : SpaceM} {o : VOp} (h : S.WF) (he : (stepM S o).sp = some T) : T.WF := by
  unfold stepM at he
  split at he
  · exact SpaceM.create_wf h (fun _ _ => rfl) (fun _ _ h => by cases h) he
  split at he
  · exact SpaceM.delete_wf h he
  split at he
  · exact SpaceM.give_wf h he
  split at he
  · exact SpaceM.map_wf h he
  split at he
  · exact SpaceM.unmap_wf h he
  split at he
  · exact SpaceM.snapshot_wf h he
  split at he
  · exact SpaceM.drop_wf h he
  split at he
  · exact SpaceM.clone_wf h he
  split at he
  · exact SpaceM.restore_wf h he
  · obtain rfl : S = T := by simpa using he
    exact h
theorem do_wf {S : SpaceM} {o : VOp} (h : S.WF) : (doM S o).WF := by
  unfold doM
  split
  · rename_i T hT; exact step_wf h hT
  · exact h
end Go.Proofs.YtmgcgdkndkibgaaGreat
