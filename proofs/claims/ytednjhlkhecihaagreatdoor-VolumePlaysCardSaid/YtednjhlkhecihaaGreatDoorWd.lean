/- solventlaw27.do. Printed by vd.py. -/
import Derived.Test.YtednjhlkhecihaaGreatDoorVj
import Derived.Test.YtednjhlkhecihaaGreatDoorVq
namespace Go.Vol
structure VOp where
  d : Int
  a : Int
  b : Int
  c : Int
def stepM (S : SpaceM) (o : VOp) : ResM :=
  if o.d = 1 then S.create o.a empty else if o.d = 2 then S.delete o.a else if o.d = 3 then S.give o.a o.b else if o.d = 4 then S.map o.a o.b o.c else if o.d = 5 then S.unmap o.a o.b
  else if o.d = 6 then S.snapshot o.a else if o.d = 7 then S.drop o.a else if o.d = 8 then S.clone o.a o.b else if o.d = 9 then S.restore o.a o.b else ⟨some S, 0, 0⟩
def doM (S : SpaceM) (o : VOp) : SpaceM := match (stepM S o).sp with
  | some T => T
  | none => S
/-- An error and no space, or a space and no error. -/
def ResM.Link (R : ResM) : Prop := (R.e = 0 ∧ ∃ T, R.sp = some T) ∨ (R.e ≠ 0 ∧ R.sp = none)
theorem create_link (S : SpaceM) (t : Int) (m : MapM) : (S.create t m).Link := by
  unfold SpaceM.create ResM.Link
  split
  · exact .inr ⟨by decide, rfl⟩
  · split
    · exact .inr ⟨by decide, rfl⟩
    · exact .inl ⟨rfl, _, rfl⟩
theorem delete_link (S : SpaceM) (v : Int) : (S.delete v).Link := by
  unfold SpaceM.delete ResM.Link
  split
  · exact .inr ⟨by decide, rfl⟩
  · exact .inl ⟨rfl, _, rfl⟩
theorem change_link (S : SpaceM) (v : Int) (ok : Bool) (f : PartM → PartM) : (S.change v ok f).Link := by
  unfold SpaceM.change ResM.Link
  split
  · exact .inr ⟨by decide, rfl⟩
  · split
    · exact .inl ⟨rfl, _, rfl⟩
    · exact .inr ⟨by decide, rfl⟩
theorem snapshot_link (S : SpaceM) (v : Int) : (S.snapshot v).Link := by
  unfold SpaceM.snapshot ResM.Link
  split
  · exact .inr ⟨by decide, rfl⟩
  · split
    · exact .inr ⟨by decide, rfl⟩
    · exact .inl ⟨rfl, _, rfl⟩
theorem drop_link (S : SpaceM) (v : Int) : (S.drop v).Link := by
  unfold SpaceM.drop ResM.Link
  split
  · exact .inr ⟨by decide, rfl⟩
  · exact .inl ⟨rfl, _, rfl⟩
theorem clone_link (S : SpaceM) (s t : Int) : (S.clone s t).Link := by
  unfold SpaceM.clone
  split
  · exact .inr ⟨by decide, rfl⟩
  · exact create_link _ _ _
theorem restore_link (S : SpaceM) (v s : Int) : (S.restore v s).Link := by
  unfold SpaceM.restore
  split
  · exact .inr ⟨by decide, rfl⟩
  · exact change_link _ _ _ _
theorem change_id (S : SpaceM) (v : Int) (ok : Bool) (f : PartM → PartM) : (S.change v ok f).id = 0 := by
  unfold SpaceM.change
  split
  · rfl
  · split <;> rfl
theorem delete_id (S : SpaceM) (v : Int) : (S.delete v).id = 0 := by unfold SpaceM.delete; split <;> rfl
theorem drop_id (S : SpaceM) (v : Int) : (S.drop v).id = 0 := by unfold SpaceM.drop; split <;> rfl
theorem restore_id (S : SpaceM) (v s : Int) : (S.restore v s).id = 0 := by
  unfold SpaceM.restore
  split
  · rfl
  · exact change_id _ _ _ _
end Go.Vol
namespace Go.Proofs.YtednjhlkhecihaaGreatDoor
open Go.RowKit Go.Vol Go.Sl

theorem Res2.ok {w w' : World} {R : ResM} {e : Ending} {T : SpaceM} (h : Res2 w R e w') (h0 : R.e = 0) (hT : R.sp = some T) : ∃ p : Nat, e = .returned (.tuple #[.pointer (some ⟨p, 0, none⟩), .int .i64 0]) ∧ Hid (Below w.heap.size w w' ∧ SpaceAt TNode TSp w' p T) := by
  obtain ⟨v, rfl, hb, hs⟩ := h
  rw [hT] at hs
  obtain ⟨p, rfl, hs⟩ := hs
  exact ⟨p, by rw [h0], hb, hs⟩
theorem Res2.no {w w' : World} {R : ResM} {e : Ending} (h : Res2 w R e w') (hT : R.sp = none) : e = .returned (.tuple #[.pointer none, .int .i64 R.e]) ∧ Hid (Below w.heap.size w w') := by
  obtain ⟨v, rfl, hb, hs⟩ := h
  rw [hT] at hs
  obtain rfl : v = .pointer none := hs
  exact ⟨rfl, hb⟩
theorem Res3.ok {w w' : World} {R : ResM} {e : Ending} {T : SpaceM} (h : Res3 w R e w') (h0 : R.e = 0) (hT : R.sp = some T) : ∃ p : Nat, e = .returned (.tuple #[.pointer (some ⟨p, 0, none⟩), .int .i64 R.id, .int .i64 0]) ∧ Hid (Below w.heap.size w w' ∧ SpaceAt TNode TSp w' p T) := by
  obtain ⟨v, rfl, hb, hs⟩ := h
  rw [hT] at hs
  obtain ⟨p, rfl, hs⟩ := hs
  exact ⟨p, by rw [h0], hb, hs⟩
theorem Res3.no {w w' : World} {R : ResM} {e : Ending} (h : Res3 w R e w') (hT : R.sp = none) : e = .returned (.tuple #[.pointer none, .int .i64 R.id, .int .i64 R.e]) ∧ Hid (Below w.heap.size w w') := by
  obtain ⟨v, rfl, hb, hs⟩ := h
  rw [hT] at hs
  obtain rfl : v = .pointer none := hs
  exact ⟨rfl, hb⟩
/-- What do answers: the space's pointer, the id, the error. -/
def DoOut (w : World) (S : SpaceM) (o : VOp) (e : Ending) (w' : World) : Prop := ∃ p : Nat, e = .returned (.tuple #[.pointer (some ⟨p, 0, none⟩), .int .i64 (stepM S o).id, .int .i64 (stepM S o).e]) ∧ Hid (Below w.heap.size w w' ∧ SpaceAt TNode TSp w' p (doM S o))
abbrev TVOp : TypeId := 33

set_option maxRecDepth 20000 in
set_option maxHeartbeats 1000000 in
theorem do1_any (p : Nat) (S : SpaceM) (a b c : Int) (w : World) (hS : SpaceAt TNode TSp w p S) (hwf : S.WF) :
    Calls Tryz.prog 6 #[.pointer (some ⟨p, 0, none⟩), .agg #[.int .i64 1, .int .i64 a, .int .i64 b, .int .i64 c]] w (DoOut w S ⟨1, a, b, c⟩) := by
  have hb0 := (Below.refl w.heap.size w).alloc (Nat.le_refl _) (.cells #[.int .i64 1, .int .i64 a, .int .i64 b, .int .i64 c] TVOp)
  have HC := Lib.hid (createN_any p S a (w.alloc (.cells #[.int .i64 1, .int .i64 a, .int .i64 b, .int .i64 c] TVOp)) (hS.below hb0) hwf)
  have hst : stepM S ⟨1, a, b, c⟩ = S.create a Vol.empty := by simp [stepM]
  have HB := Lib.hid (And.intro hb0 hS)
  rcases (show (S.create a Vol.empty).Link from create_link _ _ _) with ⟨h0, T, hT⟩ | ⟨h0, hT⟩
  · have HO := Lib.hid (And.intro h0 (And.intro hT (And.intro hst (show doM S ⟨1, a, b, c⟩ = T by unfold doM; rw [hst, hT]))))
    clear hS hwf hb0 hst h0 hT
    go_enter Tryz.func6, Tryz.ntmps6
    go_wp2_with (go_at_call 19; refine HC.out.mono ?_; rintro e w1 h; obtain ⟨p1, rfl, h1⟩ := Res3.ok h HO.out.1 HO.out.2.1; clear h)
    refine bodyPost_ret (v := .tuple #[_, _, _]) (by simp [results, Tryz.results6, go_sem]; exact ⟨rfl, rfl, rfl⟩) rfl ?_
    refine ⟨p1, ?_, HB.out.1.trans (h1.out.1.mono HB.out.1.size), by rw [HO.out.2.2.2]; exact h1.out.2⟩
    rw [HO.out.2.2.1, HO.out.1]
  · have HO := Lib.hid (And.intro h0 (And.intro hT (And.intro hst (show doM S ⟨1, a, b, c⟩ = S by unfold doM; rw [hst, hT]))))
    have hne : ((S.create a Vol.empty).e != 0) = true := by simpa using h0
    generalize hE : (S.create a Vol.empty).e = E at hne
    have HE := Lib.hid hE
    clear hS hwf hb0 hst h0 hT hE
    go_enter Tryz.func6, Tryz.ntmps6
    go_wp2_with (go_at_call 19; refine HC.out.mono ?_; rintro e w1 h; obtain ⟨rfl, h1⟩ := Res3.no h HO.out.2.1; clear h; rw [HE.out])
    refine bodyPost_ret (v := .tuple #[_, _, _]) (by simp [results, Tryz.results6, go_sem]; exact ⟨rfl, rfl, rfl⟩) rfl ?_
    refine ⟨p, ?_, HB.out.1.trans (h1.out.mono HB.out.1.size), by rw [HO.out.2.2.2]; exact (HB.out.2.below HB.out.1).below h1.out⟩
    rw [HO.out.2.2.1, HE.out]

set_option maxRecDepth 20000 in
set_option maxHeartbeats 1000000 in
theorem do2_any (p : Nat) (S : SpaceM) (a b c : Int) (w : World) (hS : SpaceAt TNode TSp w p S) (hwf : S.WF) :
    Calls Tryz.prog 6 #[.pointer (some ⟨p, 0, none⟩), .agg #[.int .i64 2, .int .i64 a, .int .i64 b, .int .i64 c]] w (DoOut w S ⟨2, a, b, c⟩) := by
  have hb0 := (Below.refl w.heap.size w).alloc (Nat.le_refl _) (.cells #[.int .i64 2, .int .i64 a, .int .i64 b, .int .i64 c] TVOp)
  have HC := Lib.hid (deleteS_any p S a (w.alloc (.cells #[.int .i64 2, .int .i64 a, .int .i64 b, .int .i64 c] TVOp)) (hS.below hb0) hwf)
  have hst : stepM S ⟨2, a, b, c⟩ = S.delete a := by simp [stepM]
  have HB := Lib.hid (And.intro hb0 hS)
  rcases (show (S.delete a).Link from delete_link _ _) with ⟨h0, T, hT⟩ | ⟨h0, hT⟩
  · have HO := Lib.hid (And.intro h0 (And.intro hT (And.intro hst (show doM S ⟨2, a, b, c⟩ = T by unfold doM; rw [hst, hT]))))
    clear hS hwf hb0 hst h0 hT
    go_enter Tryz.func6, Tryz.ntmps6
    go_wp2_with (go_at_call 20; refine HC.out.mono ?_; rintro e w1 h; obtain ⟨p1, rfl, h1⟩ := Res2.ok h HO.out.1 HO.out.2.1; clear h)
    refine bodyPost_ret (v := .tuple #[_, _, _]) (by simp [results, Tryz.results6, go_sem]; exact ⟨rfl, rfl, rfl⟩) rfl ?_
    refine ⟨p1, ?_, HB.out.1.trans (h1.out.1.mono HB.out.1.size), by rw [HO.out.2.2.2]; exact h1.out.2⟩
    rw [HO.out.2.2.1, HO.out.1]; rw [show (S.delete a).id = 0 from delete_id _ _]
  · have HO := Lib.hid (And.intro h0 (And.intro hT (And.intro hst (show doM S ⟨2, a, b, c⟩ = S by unfold doM; rw [hst, hT]))))
    have hne : ((S.delete a).e != 0) = true := by simpa using h0
    generalize hE : (S.delete a).e = E at hne
    have HE := Lib.hid hE
    clear hS hwf hb0 hst h0 hT hE
    go_enter Tryz.func6, Tryz.ntmps6
    go_wp2_with (go_at_call 20; refine HC.out.mono ?_; rintro e w1 h; obtain ⟨rfl, h1⟩ := Res2.no h HO.out.2.1; clear h; rw [HE.out])
    refine bodyPost_ret (v := .tuple #[_, _, _]) (by simp [results, Tryz.results6, go_sem]; exact ⟨rfl, rfl, rfl⟩) rfl ?_
    refine ⟨p, ?_, HB.out.1.trans (h1.out.mono HB.out.1.size), by rw [HO.out.2.2.2]; exact (HB.out.2.below HB.out.1).below h1.out⟩
    rw [HO.out.2.2.1, HE.out]; rw [show (S.delete a).id = 0 from delete_id _ _]

set_option maxRecDepth 20000 in
set_option maxHeartbeats 1000000 in
theorem do3_any (p : Nat) (S : SpaceM) (a b c : Int) (w : World) (hS : SpaceAt TNode TSp w p S) (hwf : S.WF) :
    Calls Tryz.prog 6 #[.pointer (some ⟨p, 0, none⟩), .agg #[.int .i64 3, .int .i64 a, .int .i64 b, .int .i64 c]] w (DoOut w S ⟨3, a, b, c⟩) := by
  have hb0 := (Below.refl w.heap.size w).alloc (Nat.le_refl _) (.cells #[.int .i64 3, .int .i64 a, .int .i64 b, .int .i64 c] TVOp)
  have HC := Lib.hid (giveS_any p S a b (w.alloc (.cells #[.int .i64 3, .int .i64 a, .int .i64 b, .int .i64 c] TVOp)) (hS.below hb0) hwf)
  have hst : stepM S ⟨3, a, b, c⟩ = S.give a b := by simp [stepM]
  have HB := Lib.hid (And.intro hb0 hS)
  rcases (show (S.give a b).Link from change_link _ _ _ _) with ⟨h0, T, hT⟩ | ⟨h0, hT⟩
  · have HO := Lib.hid (And.intro h0 (And.intro hT (And.intro hst (show doM S ⟨3, a, b, c⟩ = T by unfold doM; rw [hst, hT]))))
    clear hS hwf hb0 hst h0 hT
    go_enter Tryz.func6, Tryz.ntmps6
    go_wp2_with (go_at_call 21; refine HC.out.mono ?_; rintro e w1 h; obtain ⟨p1, rfl, h1⟩ := Res2.ok h HO.out.1 HO.out.2.1; clear h)
    refine bodyPost_ret (v := .tuple #[_, _, _]) (by simp [results, Tryz.results6, go_sem]; exact ⟨rfl, rfl, rfl⟩) rfl ?_
    refine ⟨p1, ?_, HB.out.1.trans (h1.out.1.mono HB.out.1.size), by rw [HO.out.2.2.2]; exact h1.out.2⟩
    rw [HO.out.2.2.1, HO.out.1]; rw [show (S.give a b).id = 0 from change_id _ _ _ _]
  · have HO := Lib.hid (And.intro h0 (And.intro hT (And.intro hst (show doM S ⟨3, a, b, c⟩ = S by unfold doM; rw [hst, hT]))))
    have hne : ((S.give a b).e != 0) = true := by simpa using h0
    generalize hE : (S.give a b).e = E at hne
    have HE := Lib.hid hE
    clear hS hwf hb0 hst h0 hT hE
    go_enter Tryz.func6, Tryz.ntmps6
    go_wp2_with (go_at_call 21; refine HC.out.mono ?_; rintro e w1 h; obtain ⟨rfl, h1⟩ := Res2.no h HO.out.2.1; clear h; rw [HE.out])
    refine bodyPost_ret (v := .tuple #[_, _, _]) (by simp [results, Tryz.results6, go_sem]; exact ⟨rfl, rfl, rfl⟩) rfl ?_
    refine ⟨p, ?_, HB.out.1.trans (h1.out.mono HB.out.1.size), by rw [HO.out.2.2.2]; exact (HB.out.2.below HB.out.1).below h1.out⟩
    rw [HO.out.2.2.1, HE.out]; rw [show (S.give a b).id = 0 from change_id _ _ _ _]

set_option maxRecDepth 20000 in
set_option maxHeartbeats 1000000 in
theorem do4_any (p : Nat) (S : SpaceM) (a b c : Int) (w : World) (hS : SpaceAt TNode TSp w p S) (hwf : S.WF) :
    Calls Tryz.prog 6 #[.pointer (some ⟨p, 0, none⟩), .agg #[.int .i64 4, .int .i64 a, .int .i64 b, .int .i64 c]] w (DoOut w S ⟨4, a, b, c⟩) := by
  have hb0 := (Below.refl w.heap.size w).alloc (Nat.le_refl _) (.cells #[.int .i64 4, .int .i64 a, .int .i64 b, .int .i64 c] TVOp)
  have HC := Lib.hid (mapS_any p S a b c (w.alloc (.cells #[.int .i64 4, .int .i64 a, .int .i64 b, .int .i64 c] TVOp)) (hS.below hb0) hwf)
  have hst : stepM S ⟨4, a, b, c⟩ = S.map a b c := by simp [stepM]
  have HB := Lib.hid (And.intro hb0 hS)
  rcases (show (S.map a b c).Link from change_link _ _ _ _) with ⟨h0, T, hT⟩ | ⟨h0, hT⟩
  · have HO := Lib.hid (And.intro h0 (And.intro hT (And.intro hst (show doM S ⟨4, a, b, c⟩ = T by unfold doM; rw [hst, hT]))))
    clear hS hwf hb0 hst h0 hT
    go_enter Tryz.func6, Tryz.ntmps6
    go_wp2_with (go_at_call 22; refine HC.out.mono ?_; rintro e w1 h; obtain ⟨p1, rfl, h1⟩ := Res2.ok h HO.out.1 HO.out.2.1; clear h)
    refine bodyPost_ret (v := .tuple #[_, _, _]) (by simp [results, Tryz.results6, go_sem]; exact ⟨rfl, rfl, rfl⟩) rfl ?_
    refine ⟨p1, ?_, HB.out.1.trans (h1.out.1.mono HB.out.1.size), by rw [HO.out.2.2.2]; exact h1.out.2⟩
    rw [HO.out.2.2.1, HO.out.1]; rw [show (S.map a b c).id = 0 from change_id _ _ _ _]
  · have HO := Lib.hid (And.intro h0 (And.intro hT (And.intro hst (show doM S ⟨4, a, b, c⟩ = S by unfold doM; rw [hst, hT]))))
    have hne : ((S.map a b c).e != 0) = true := by simpa using h0
    generalize hE : (S.map a b c).e = E at hne
    have HE := Lib.hid hE
    clear hS hwf hb0 hst h0 hT hE
    go_enter Tryz.func6, Tryz.ntmps6
    go_wp2_with (go_at_call 22; refine HC.out.mono ?_; rintro e w1 h; obtain ⟨rfl, h1⟩ := Res2.no h HO.out.2.1; clear h; rw [HE.out])
    refine bodyPost_ret (v := .tuple #[_, _, _]) (by simp [results, Tryz.results6, go_sem]; exact ⟨rfl, rfl, rfl⟩) rfl ?_
    refine ⟨p, ?_, HB.out.1.trans (h1.out.mono HB.out.1.size), by rw [HO.out.2.2.2]; exact (HB.out.2.below HB.out.1).below h1.out⟩
    rw [HO.out.2.2.1, HE.out]; rw [show (S.map a b c).id = 0 from change_id _ _ _ _]

set_option maxRecDepth 20000 in
set_option maxHeartbeats 1000000 in
theorem do5_any (p : Nat) (S : SpaceM) (a b c : Int) (w : World) (hS : SpaceAt TNode TSp w p S) (hwf : S.WF) :
    Calls Tryz.prog 6 #[.pointer (some ⟨p, 0, none⟩), .agg #[.int .i64 5, .int .i64 a, .int .i64 b, .int .i64 c]] w (DoOut w S ⟨5, a, b, c⟩) := by
  have hb0 := (Below.refl w.heap.size w).alloc (Nat.le_refl _) (.cells #[.int .i64 5, .int .i64 a, .int .i64 b, .int .i64 c] TVOp)
  have HC := Lib.hid (unmapS_any p S a b (w.alloc (.cells #[.int .i64 5, .int .i64 a, .int .i64 b, .int .i64 c] TVOp)) (hS.below hb0) hwf)
  have hst : stepM S ⟨5, a, b, c⟩ = S.unmap a b := by simp [stepM]
  have HB := Lib.hid (And.intro hb0 hS)
  rcases (show (S.unmap a b).Link from change_link _ _ _ _) with ⟨h0, T, hT⟩ | ⟨h0, hT⟩
  · have HO := Lib.hid (And.intro h0 (And.intro hT (And.intro hst (show doM S ⟨5, a, b, c⟩ = T by unfold doM; rw [hst, hT]))))
    clear hS hwf hb0 hst h0 hT
    go_enter Tryz.func6, Tryz.ntmps6
    go_wp2_with (go_at_call 23; refine HC.out.mono ?_; rintro e w1 h; obtain ⟨p1, rfl, h1⟩ := Res2.ok h HO.out.1 HO.out.2.1; clear h)
    refine bodyPost_ret (v := .tuple #[_, _, _]) (by simp [results, Tryz.results6, go_sem]; exact ⟨rfl, rfl, rfl⟩) rfl ?_
    refine ⟨p1, ?_, HB.out.1.trans (h1.out.1.mono HB.out.1.size), by rw [HO.out.2.2.2]; exact h1.out.2⟩
    rw [HO.out.2.2.1, HO.out.1]; rw [show (S.unmap a b).id = 0 from change_id _ _ _ _]
  · have HO := Lib.hid (And.intro h0 (And.intro hT (And.intro hst (show doM S ⟨5, a, b, c⟩ = S by unfold doM; rw [hst, hT]))))
    have hne : ((S.unmap a b).e != 0) = true := by simpa using h0
    generalize hE : (S.unmap a b).e = E at hne
    have HE := Lib.hid hE
    clear hS hwf hb0 hst h0 hT hE
    go_enter Tryz.func6, Tryz.ntmps6
    go_wp2_with (go_at_call 23; refine HC.out.mono ?_; rintro e w1 h; obtain ⟨rfl, h1⟩ := Res2.no h HO.out.2.1; clear h; rw [HE.out])
    refine bodyPost_ret (v := .tuple #[_, _, _]) (by simp [results, Tryz.results6, go_sem]; exact ⟨rfl, rfl, rfl⟩) rfl ?_
    refine ⟨p, ?_, HB.out.1.trans (h1.out.mono HB.out.1.size), by rw [HO.out.2.2.2]; exact (HB.out.2.below HB.out.1).below h1.out⟩
    rw [HO.out.2.2.1, HE.out]; rw [show (S.unmap a b).id = 0 from change_id _ _ _ _]

set_option maxRecDepth 20000 in
set_option maxHeartbeats 1000000 in
theorem do6_any (p : Nat) (S : SpaceM) (a b c : Int) (w : World) (hS : SpaceAt TNode TSp w p S) (hwf : S.WF) :
    Calls Tryz.prog 6 #[.pointer (some ⟨p, 0, none⟩), .agg #[.int .i64 6, .int .i64 a, .int .i64 b, .int .i64 c]] w (DoOut w S ⟨6, a, b, c⟩) := by
  have hb0 := (Below.refl w.heap.size w).alloc (Nat.le_refl _) (.cells #[.int .i64 6, .int .i64 a, .int .i64 b, .int .i64 c] TVOp)
  have HC := Lib.hid (snapshotS_any p S a (w.alloc (.cells #[.int .i64 6, .int .i64 a, .int .i64 b, .int .i64 c] TVOp)) (hS.below hb0) hwf)
  have hst : stepM S ⟨6, a, b, c⟩ = S.snapshot a := by simp [stepM]
  have HB := Lib.hid (And.intro hb0 hS)
  rcases (show (S.snapshot a).Link from snapshot_link _ _) with ⟨h0, T, hT⟩ | ⟨h0, hT⟩
  · have HO := Lib.hid (And.intro h0 (And.intro hT (And.intro hst (show doM S ⟨6, a, b, c⟩ = T by unfold doM; rw [hst, hT]))))
    clear hS hwf hb0 hst h0 hT
    go_enter Tryz.func6, Tryz.ntmps6
    go_wp2_with (go_at_call 24; refine HC.out.mono ?_; rintro e w1 h; obtain ⟨p1, rfl, h1⟩ := Res3.ok h HO.out.1 HO.out.2.1; clear h)
    refine bodyPost_ret (v := .tuple #[_, _, _]) (by simp [results, Tryz.results6, go_sem]; exact ⟨rfl, rfl, rfl⟩) rfl ?_
    refine ⟨p1, ?_, HB.out.1.trans (h1.out.1.mono HB.out.1.size), by rw [HO.out.2.2.2]; exact h1.out.2⟩
    rw [HO.out.2.2.1, HO.out.1]
  · have HO := Lib.hid (And.intro h0 (And.intro hT (And.intro hst (show doM S ⟨6, a, b, c⟩ = S by unfold doM; rw [hst, hT]))))
    have hne : ((S.snapshot a).e != 0) = true := by simpa using h0
    generalize hE : (S.snapshot a).e = E at hne
    have HE := Lib.hid hE
    clear hS hwf hb0 hst h0 hT hE
    go_enter Tryz.func6, Tryz.ntmps6
    go_wp2_with (go_at_call 24; refine HC.out.mono ?_; rintro e w1 h; obtain ⟨rfl, h1⟩ := Res3.no h HO.out.2.1; clear h; rw [HE.out])
    refine bodyPost_ret (v := .tuple #[_, _, _]) (by simp [results, Tryz.results6, go_sem]; exact ⟨rfl, rfl, rfl⟩) rfl ?_
    refine ⟨p, ?_, HB.out.1.trans (h1.out.mono HB.out.1.size), by rw [HO.out.2.2.2]; exact (HB.out.2.below HB.out.1).below h1.out⟩
    rw [HO.out.2.2.1, HE.out]

set_option maxRecDepth 20000 in
set_option maxHeartbeats 1000000 in
theorem do7_any (p : Nat) (S : SpaceM) (a b c : Int) (w : World) (hS : SpaceAt TNode TSp w p S) (hwf : S.WF) :
    Calls Tryz.prog 6 #[.pointer (some ⟨p, 0, none⟩), .agg #[.int .i64 7, .int .i64 a, .int .i64 b, .int .i64 c]] w (DoOut w S ⟨7, a, b, c⟩) := by
  have hb0 := (Below.refl w.heap.size w).alloc (Nat.le_refl _) (.cells #[.int .i64 7, .int .i64 a, .int .i64 b, .int .i64 c] TVOp)
  have HC := Lib.hid (dropS_any p S a (w.alloc (.cells #[.int .i64 7, .int .i64 a, .int .i64 b, .int .i64 c] TVOp)) (hS.below hb0) hwf)
  have hst : stepM S ⟨7, a, b, c⟩ = S.drop a := by simp [stepM]
  have HB := Lib.hid (And.intro hb0 hS)
  rcases (show (S.drop a).Link from drop_link _ _) with ⟨h0, T, hT⟩ | ⟨h0, hT⟩
  · have HO := Lib.hid (And.intro h0 (And.intro hT (And.intro hst (show doM S ⟨7, a, b, c⟩ = T by unfold doM; rw [hst, hT]))))
    clear hS hwf hb0 hst h0 hT
    go_enter Tryz.func6, Tryz.ntmps6
    go_wp2_with (go_at_call 25; refine HC.out.mono ?_; rintro e w1 h; obtain ⟨p1, rfl, h1⟩ := Res2.ok h HO.out.1 HO.out.2.1; clear h)
    refine bodyPost_ret (v := .tuple #[_, _, _]) (by simp [results, Tryz.results6, go_sem]; exact ⟨rfl, rfl, rfl⟩) rfl ?_
    refine ⟨p1, ?_, HB.out.1.trans (h1.out.1.mono HB.out.1.size), by rw [HO.out.2.2.2]; exact h1.out.2⟩
    rw [HO.out.2.2.1, HO.out.1]; rw [show (S.drop a).id = 0 from drop_id _ _]
  · have HO := Lib.hid (And.intro h0 (And.intro hT (And.intro hst (show doM S ⟨7, a, b, c⟩ = S by unfold doM; rw [hst, hT]))))
    have hne : ((S.drop a).e != 0) = true := by simpa using h0
    generalize hE : (S.drop a).e = E at hne
    have HE := Lib.hid hE
    clear hS hwf hb0 hst h0 hT hE
    go_enter Tryz.func6, Tryz.ntmps6
    go_wp2_with (go_at_call 25; refine HC.out.mono ?_; rintro e w1 h; obtain ⟨rfl, h1⟩ := Res2.no h HO.out.2.1; clear h; rw [HE.out])
    refine bodyPost_ret (v := .tuple #[_, _, _]) (by simp [results, Tryz.results6, go_sem]; exact ⟨rfl, rfl, rfl⟩) rfl ?_
    refine ⟨p, ?_, HB.out.1.trans (h1.out.mono HB.out.1.size), by rw [HO.out.2.2.2]; exact (HB.out.2.below HB.out.1).below h1.out⟩
    rw [HO.out.2.2.1, HE.out]; rw [show (S.drop a).id = 0 from drop_id _ _]

set_option maxRecDepth 20000 in
set_option maxHeartbeats 1000000 in
theorem do8_any (p : Nat) (S : SpaceM) (a b c : Int) (w : World) (hS : SpaceAt TNode TSp w p S) (hwf : S.WF) :
    Calls Tryz.prog 6 #[.pointer (some ⟨p, 0, none⟩), .agg #[.int .i64 8, .int .i64 a, .int .i64 b, .int .i64 c]] w (DoOut w S ⟨8, a, b, c⟩) := by
  have hb0 := (Below.refl w.heap.size w).alloc (Nat.le_refl _) (.cells #[.int .i64 8, .int .i64 a, .int .i64 b, .int .i64 c] TVOp)
  have HC := Lib.hid (cloneS_any p S a b (w.alloc (.cells #[.int .i64 8, .int .i64 a, .int .i64 b, .int .i64 c] TVOp)) (hS.below hb0) hwf)
  have hst : stepM S ⟨8, a, b, c⟩ = S.clone a b := by simp [stepM]
  have HB := Lib.hid (And.intro hb0 hS)
  rcases (show (S.clone a b).Link from clone_link _ _ _) with ⟨h0, T, hT⟩ | ⟨h0, hT⟩
  · have HO := Lib.hid (And.intro h0 (And.intro hT (And.intro hst (show doM S ⟨8, a, b, c⟩ = T by unfold doM; rw [hst, hT]))))
    clear hS hwf hb0 hst h0 hT
    go_enter Tryz.func6, Tryz.ntmps6
    go_wp2_with (go_at_call 26; refine HC.out.mono ?_; rintro e w1 h; obtain ⟨p1, rfl, h1⟩ := Res3.ok h HO.out.1 HO.out.2.1; clear h)
    refine bodyPost_ret (v := .tuple #[_, _, _]) (by simp [results, Tryz.results6, go_sem]; exact ⟨rfl, rfl, rfl⟩) rfl ?_
    refine ⟨p1, ?_, HB.out.1.trans (h1.out.1.mono HB.out.1.size), by rw [HO.out.2.2.2]; exact h1.out.2⟩
    rw [HO.out.2.2.1, HO.out.1]
  · have HO := Lib.hid (And.intro h0 (And.intro hT (And.intro hst (show doM S ⟨8, a, b, c⟩ = S by unfold doM; rw [hst, hT]))))
    have hne : ((S.clone a b).e != 0) = true := by simpa using h0
    generalize hE : (S.clone a b).e = E at hne
    have HE := Lib.hid hE
    clear hS hwf hb0 hst h0 hT hE
    go_enter Tryz.func6, Tryz.ntmps6
    go_wp2_with (go_at_call 26; refine HC.out.mono ?_; rintro e w1 h; obtain ⟨rfl, h1⟩ := Res3.no h HO.out.2.1; clear h; rw [HE.out])
    refine bodyPost_ret (v := .tuple #[_, _, _]) (by simp [results, Tryz.results6, go_sem]; exact ⟨rfl, rfl, rfl⟩) rfl ?_
    refine ⟨p, ?_, HB.out.1.trans (h1.out.mono HB.out.1.size), by rw [HO.out.2.2.2]; exact (HB.out.2.below HB.out.1).below h1.out⟩
    rw [HO.out.2.2.1, HE.out]

set_option maxRecDepth 20000 in
set_option maxHeartbeats 1000000 in
theorem do9_any (p : Nat) (S : SpaceM) (a b c : Int) (w : World) (hS : SpaceAt TNode TSp w p S) (hwf : S.WF) :
    Calls Tryz.prog 6 #[.pointer (some ⟨p, 0, none⟩), .agg #[.int .i64 9, .int .i64 a, .int .i64 b, .int .i64 c]] w (DoOut w S ⟨9, a, b, c⟩) := by
  have hb0 := (Below.refl w.heap.size w).alloc (Nat.le_refl _) (.cells #[.int .i64 9, .int .i64 a, .int .i64 b, .int .i64 c] TVOp)
  have HC := Lib.hid (restoreS_any p S a b (w.alloc (.cells #[.int .i64 9, .int .i64 a, .int .i64 b, .int .i64 c] TVOp)) (hS.below hb0) hwf)
  have hst : stepM S ⟨9, a, b, c⟩ = S.restore a b := by simp [stepM]
  have HB := Lib.hid (And.intro hb0 hS)
  rcases (show (S.restore a b).Link from restore_link _ _ _) with ⟨h0, T, hT⟩ | ⟨h0, hT⟩
  · have HO := Lib.hid (And.intro h0 (And.intro hT (And.intro hst (show doM S ⟨9, a, b, c⟩ = T by unfold doM; rw [hst, hT]))))
    clear hS hwf hb0 hst h0 hT
    go_enter Tryz.func6, Tryz.ntmps6
    go_wp2_with (go_at_call 27; refine HC.out.mono ?_; rintro e w1 h; obtain ⟨p1, rfl, h1⟩ := Res2.ok h HO.out.1 HO.out.2.1; clear h)
    refine bodyPost_ret (v := .tuple #[_, _, _]) (by simp [results, Tryz.results6, go_sem]; exact ⟨rfl, rfl, rfl⟩) rfl ?_
    refine ⟨p1, ?_, HB.out.1.trans (h1.out.1.mono HB.out.1.size), by rw [HO.out.2.2.2]; exact h1.out.2⟩
    rw [HO.out.2.2.1, HO.out.1]; rw [show (S.restore a b).id = 0 from restore_id _ _ _]
  · have HO := Lib.hid (And.intro h0 (And.intro hT (And.intro hst (show doM S ⟨9, a, b, c⟩ = S by unfold doM; rw [hst, hT]))))
    have hne : ((S.restore a b).e != 0) = true := by simpa using h0
    generalize hE : (S.restore a b).e = E at hne
    have HE := Lib.hid hE
    clear hS hwf hb0 hst h0 hT hE
    go_enter Tryz.func6, Tryz.ntmps6
    go_wp2_with (go_at_call 27; refine HC.out.mono ?_; rintro e w1 h; obtain ⟨rfl, h1⟩ := Res2.no h HO.out.2.1; clear h; rw [HE.out])
    refine bodyPost_ret (v := .tuple #[_, _, _]) (by simp [results, Tryz.results6, go_sem]; exact ⟨rfl, rfl, rfl⟩) rfl ?_
    refine ⟨p, ?_, HB.out.1.trans (h1.out.mono HB.out.1.size), by rw [HO.out.2.2.2]; exact (HB.out.2.below HB.out.1).below h1.out⟩
    rw [HO.out.2.2.1, HE.out]; rw [show (S.restore a b).id = 0 from restore_id _ _ _]

set_option maxRecDepth 20000 in
set_option maxHeartbeats 1000000 in
theorem do0_any (p : Nat) (S : SpaceM) (d a b c : Int) (w : World) (hS : SpaceAt TNode TSp w p S) (h1 : d ≠ 1) (h2 : d ≠ 2) (h3 : d ≠ 3) (h4 : d ≠ 4) (h5 : d ≠ 5) (h6 : d ≠ 6) (h7 : d ≠ 7) (h8 : d ≠ 8) (h9 : d ≠ 9) :
    Calls Tryz.prog 6 #[.pointer (some ⟨p, 0, none⟩), .agg #[.int .i64 d, .int .i64 a, .int .i64 b, .int .i64 c]] w (DoOut w S ⟨d, a, b, c⟩) := by
  have hb0 := (Below.refl w.heap.size w).alloc (Nat.le_refl _) (.cells #[.int .i64 d, .int .i64 a, .int .i64 b, .int .i64 c] TVOp)
  have hst : stepM S ⟨d, a, b, c⟩ = ⟨some S, 0, 0⟩ := by simp [stepM, h1, h2, h3, h4, h5, h6, h7, h8, h9]
  have HO := Lib.hid (And.intro hst (show doM S ⟨d, a, b, c⟩ = S by unfold doM; rw [hst]))
  have HB := Lib.hid (And.intro hb0 hS)
  have n1 : (d == 1) = false := by simpa using h1
  have n2 : (d == 2) = false := by simpa using h2
  have n3 : (d == 3) = false := by simpa using h3
  have n4 : (d == 4) = false := by simpa using h4
  have n5 : (d == 5) = false := by simpa using h5
  have n6 : (d == 6) = false := by simpa using h6
  have n7 : (d == 7) = false := by simpa using h7
  have n8 : (d == 8) = false := by simpa using h8
  have n9 : (d == 9) = false := by simpa using h9
  clear hS hb0 hst h1 h2 h3 h4 h5 h6 h7 h8 h9
  go_enter Tryz.func6, Tryz.ntmps6
  go_wp2
  refine bodyPost_ret (v := .tuple #[_, _, _]) (by simp [results, Tryz.results6, go_sem]; exact ⟨rfl, rfl, rfl⟩) rfl ?_
  exact ⟨p, by rw [HO.out.1], HB.out.1, by rw [HO.out.2]; exact HB.out.2.below HB.out.1⟩

theorem do_any (p : Nat) (S : SpaceM) (o : VOp) (w : World) (hS : SpaceAt TNode TSp w p S) (hwf : S.WF) :
    Calls Tryz.prog 6 #[.pointer (some ⟨p, 0, none⟩), .agg #[.int .i64 o.d, .int .i64 o.a, .int .i64 o.b, .int .i64 o.c]] w (DoOut w S o) := by
  obtain ⟨d, a, b, c⟩ := o
  by_cases h1 : d = 1
  · subst h1; exact do1_any p S a b c w hS hwf
  by_cases h2 : d = 2
  · subst h2; exact do2_any p S a b c w hS hwf
  by_cases h3 : d = 3
  · subst h3; exact do3_any p S a b c w hS hwf
  by_cases h4 : d = 4
  · subst h4; exact do4_any p S a b c w hS hwf
  by_cases h5 : d = 5
  · subst h5; exact do5_any p S a b c w hS hwf
  by_cases h6 : d = 6
  · subst h6; exact do6_any p S a b c w hS hwf
  by_cases h7 : d = 7
  · subst h7; exact do7_any p S a b c w hS hwf
  by_cases h8 : d = 8
  · subst h8; exact do8_any p S a b c w hS hwf
  by_cases h9 : d = 9
  · subst h9; exact do9_any p S a b c w hS hwf
  exact do0_any p S d a b c w hS h1 h2 h3 h4 h5 h6 h7 h8 h9

theorem step_wf {S T : SpaceM} {o : VOp} (h : S.WF) (he : (stepM S o).sp = some T) : T.WF := by
  unfold stepM at he
  split at he
  · exact SpaceM.create_wf h (fun _ _ => rfl) (fun _ _ h => by cases h) he
  split at he
  · exact SpaceM.delete_wf h he
  split at he
  · exact SpaceM.give_wf h he
  split at he
  · exact SpaceM.map_wf h he
  split at he
  · exact SpaceM.unmap_wf h he
  split at he
  · exact SpaceM.snapshot_wf h he
  split at he
  · exact SpaceM.drop_wf h he
  split at he
  · exact SpaceM.clone_wf h he
  split at he
  · exact SpaceM.restore_wf h he
  · obtain rfl : S = T := by simpa using he
    exact h
theorem do_wf {S : SpaceM} {o : VOp} (h : S.WF) : (doM S o).WF := by
  unfold doM
  split
  · rename_i T hT; exact step_wf h hT
  · exact h
end Go.Proofs.YtednjhlkhecihaaGreatDoor
