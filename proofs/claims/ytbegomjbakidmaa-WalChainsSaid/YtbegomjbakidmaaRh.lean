/- A region that draws its order, where two operations come up together. It speaks of no program. -/
import Derived.Test.YtbegomjbakidmaaRg
namespace Go.Sl
open Go Go.RowKit
/-- One of the operations that come up. -/
structure RStep (P : Program) (ops : Array Oper) (Q : Exit → Act → World → Prop) (S : World → Prop) (fuel : Nat) (listed : Array Bool) (t : Array Value) (df : List Deferred) (w : World) (i : Nat) : Prop where
  out : Closed ops listed → wpOp P ops (NoPanic Q) i (fun a' w' => (tailB ops i = true ∨ S w') ∧ wpAnyG P ops (NoPanic Q) S fuel (listed.setIfInBounds i true) a' w') ⟨t, df⟩ w
section
variable {P : Program} {ops : Array Oper} {Q : Exit → Act → World → Prop} {S : World → Prop} {fuel : Nat} {listed : Array Bool} {t : Array Value} {df : List Deferred} {w : World}
theorem reg_fork (i j : Nat) (hck : (Region.ready .any ops listed == [i, j]) = true) (h1 : RStep P ops Q S fuel listed t df w i) (h2 : RStep P ops Q S fuel listed t df w j) : Reg P ops Q S (fuel + 1) listed t df w := by
  have hck' : Region.ready .any ops listed = [i, j] := by simpa using hck
  constructor
  intro hc
  refine ⟨fun h => (by rw [hck'] at h; cases h), fun x hx => ?_⟩
  rw [hck'] at hx
  rcases (show x = i ∨ x = j by simpa using hx) with rfl | rfl
  · exact h1.out hc
  · exact h2.out hc
theorem rstep_op {i : Nat} {o : Oper} (ho : ops[i]? = some o) (hck : (Region.ready .any ops listed).contains i = true) (hw : Region.wanted o (yielded ops t) = true)
    (k : o.wp P ⟨t, df⟩ w (fun a' w' => S w' ∧ Reg P ops Q S fuel (listed.setIfInBounds i true) a'.tmps a'.defers w') (NoPanic Q)) : RStep P ops Q S fuel listed t df w i := by
  constructor
  intro hc
  have hci : Closed ops (listed.setIfInBounds i true) := hc.set (by simpa using hck)
  unfold wpOp
  simp only [ho, hw, if_true]
  left
  refine Oper.wp_mono ?_ k
  exact fun a' w' h => ⟨.inr h.1, h.2.out hci⟩
theorem rstep_run {i : Nat} {o : Oper} {d : Tmp} (v : Value) (w' : World) (ho : ops[i]? = some o) (hd : o.dst = some d) (hck : (Region.ready .any ops listed).contains i = true) (hw : Region.wanted o (yielded ops t) = true)
    (hr : (execOp (Act.eval ⟨t, df⟩) o).run P w = .ok (.value v) w') (hS : S w') (k : Reg P ops Q S fuel (listed.setIfInBounds i true) (t.setIfInBounds d v) df w') : RStep P ops Q S fuel listed t df w i :=
  rstep_op ho hck hw (by unfold Oper.wp; rw [hr]; simp only [Oper.upon, hd, put_some]; exact ⟨hS, k⟩)
theorem rstep_call {i : Nat} {o : Oper} {d : Tmp} {f : FuncId} {args : Array Value} {R : Value → World → Prop} (ho : ops[i]? = some o) (hd : o.dst = some d) (hck : (Region.ready .any ops listed).contains i = true) (hw : Region.wanted o (yielded ops t) = true)
    (hr : (execOp (Act.eval ⟨t, df⟩) o).run P w = .ok (.enter f args) w) (hc : Calls P f args w fun e w' => ∃ v, e = .returned v ∧ R v w')
    (k : ∀ v w', R v w' → S w' ∧ Reg P ops Q S fuel (listed.setIfInBounds i true) (t.setIfInBounds d v) df w') : RStep P ops Q S fuel listed t df w i :=
  rstep_op ho hck hw (by
    unfold Oper.wp; rw [hr]
    refine hc.mono ?_
    rintro e w' ⟨v, rfl, h⟩
    simp only [hd, put_some]
    exact k v w' h)
end
end Go.Sl
