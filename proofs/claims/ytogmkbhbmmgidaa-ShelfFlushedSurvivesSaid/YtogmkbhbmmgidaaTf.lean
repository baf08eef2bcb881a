/- What the laws of 17 over a ShelfPlaysIn share: its cells, opening it, a script keeps the configuration. -/
import Derived.Test.YtogmkbhbmmgidaaTe
import Derived.Test.YtogmkbhbmmgidaaSk
namespace Go.Proofs.Ytogmkbhbmmgidaa
open Go.RowKit Go.Sl Go.ChangeMaps Go.ChangeShapes Go.WideShapes Go.ChangeAt

abbrev TPlay : TypeId := 41
abbrev plyA (c : CfgM) (v : Value) (cp : Int) : Array Value := #[.int .i64 c.disks, .int .i64 c.racks, .int .i64 c.rows, .int .i64 c.spare, .int .i64 c.log, .int .i64 c.image, v, .int .i64 cp]
theorem ply_cells {w : World} {B : Nat} {c : CfgM} {v : Value} {cp : Int} {X : HProp} (h : Sat w (pts B (.cells (plyA c v cp) TPlay (0, 0)) * X)) :
    (w.cell? ⟨B, 0, none⟩ = some (.int .i64 c.disks) ∧ w.cell? ⟨B, 1, none⟩ = some (.int .i64 c.racks) ∧ w.cell? ⟨B, 2, none⟩ = some (.int .i64 c.rows) ∧ w.cell? ⟨B, 3, none⟩ = some (.int .i64 c.spare) ∧ w.cell? ⟨B, 4, none⟩ = some (.int .i64 c.log) ∧ w.cell? ⟨B, 5, none⟩ = some (.int .i64 c.image)) ∧
    w.cell? ⟨B, 6, none⟩ = some v ∧ B < w.heap.size := by
  have hb := cells_at h.block
  exact ⟨⟨hb 0, hb 1, hb 2, hb 3, hb 4, hb 5⟩, hb 6, h.lt⟩
theorem pl_cells {w : World} {B : Nat} {a : PlaceM} {X : HProp} (h : Sat w (pts B (.cells (plA a) TPl (0, 0)) * X)) :
    w.cell? ⟨B, 0, none⟩ = some (.int .i64 a.disk) ∧ w.cell? ⟨B, 1, none⟩ = some (.int .i64 a.area) ∧ w.cell? ⟨B, 2, none⟩ = some (.int .i64 a.index) ∧ B < w.heap.size := by
  have hb := cells_at h.block
  exact ⟨hb 0, hb 1, hb 2, h.lt⟩
set_option maxRecDepth 20000 in
theorem rd_play {w : World} {cs : List Value} (h : Rd Try.prog w TPlay cs) : ∃ c v l cp, cs = (plyA c v cp).toList ∧ ScrN w v l ∧ (Lit.int .i64 cp).wf = true := by
  obtain ⟨hl, hf⟩ := Rd.struct Try.underlying41 h
  rw [show Try.prog.cellsOf TPlay = 8 by kernel_rfl] at hl
  have k1 : Try.prog.cellsOf 3 = 1 := by kernel_rfl
  have k3 : Try.prog.cellsOf TCfg = 6 := by kernel_rfl
  have k4 : Try.prog.cellsOf 39 = 1 := by kernel_rfl
  match cs, hl with
  | [a0, a1, a2, a3, a4, a5, a6, a7], _ =>
    simp only [List.mem_cons, List.not_mem_nil, or_false, forall_eq_or_imp, forall_eq, k1, k3, k4, List.drop_zero, List.drop_succ_cons, List.take_succ_cons, List.take_zero] at hf
    obtain ⟨h0, h1, h2⟩ := hf
    obtain ⟨c, e0⟩ := rd_cfg h0
    obtain ⟨v, l, e1, hs⟩ := rd_script h1
    obtain ⟨n4, e4, w4⟩ := Rd.int Try.underlying3 h2
    refine ⟨c, v, l, n4, ?_, hs, w4⟩
    simp [cfgL] at e0 e1 e4
    obtain ⟨rfl, rfl, rfl, rfl, rfl, rfl⟩ := e0
    subst e1 e4
    rfl

theorem step_cfg (S : ShelfM) (d : Int) (f : DiskM → DiskM) : (S.step d f).1.cfg = S.cfg := by
  unfold ShelfM.step
  split; rfl
  split; rfl
  split
  · split <;> rfl
  · rfl
theorem flush_cfg (S : ShelfM) (d : Int) : (S.flush d).1.cfg = S.cfg := by
  unfold ShelfM.flush; split
  · rfl
  · exact step_cfg S d _
theorem flushFrom_cfg : ∀ (m : Nat) (S : ShelfM) (k : Nat), (S.flushFrom k m).1.cfg = S.cfg
  | 0, _, _ => rfl
  | m + 1, S, k => by
    show (if S.state k ≠ 1 then S.flushFrom (k + 1) m else if (S.flush k).2 ≠ 0 then S.flush k else (S.flush k).1.flushFrom (k + 1) m).1.cfg = _
    split
    · exact flushFrom_cfg m S (k + 1)
    · split
      · exact flush_cfg S k
      · rw [flushFrom_cfg m, flush_cfg]
theorem arm_cfg (S : ShelfM) (a : PlaceM) (v : Bool) (f : DiskM → Int → DiskM × Int) : (S.arm a v f).1.cfg = S.cfg := by
  unfold ShelfM.arm
  split; rfl
  split <;> rfl
theorem doN_cfg (S : ShelfM) (o : OpN) : (doN S o).1.cfg = S.cfg := by
  unfold doN
  by_cases q1 : o.kind = 1
  · rw [if_pos q1]; show (S.write _ _).1.cfg = _; unfold ShelfM.write; split; rfl; exact step_cfg _ _ _
  rw [if_neg q1]
  by_cases q2 : o.kind = 2
  · rw [if_pos q2]
  rw [if_neg q2]
  by_cases q3 : o.kind = 3
  · rw [if_pos q3]; exact flush_cfg _ _
  rw [if_neg q3]
  by_cases q4 : o.kind = 4
  · rw [if_pos q4]; show S.flushAll.1.cfg = _; unfold ShelfM.flushAll; split; rfl; exact flushFrom_cfg _ _ _
  rw [if_neg q4]
  by_cases q5 : o.kind = 5
  · rw [if_pos q5]; rfl
  rw [if_neg q5]
  by_cases q6 : o.kind = 6
  · rw [if_pos q6]; rfl
  rw [if_neg q6]
  by_cases q7 : o.kind = 7
  · rw [if_pos q7]; show (S.kill _).1.cfg = _; unfold ShelfM.kill; split <;> rfl
  rw [if_neg q7]
  by_cases q8 : o.kind = 8
  · rw [if_pos q8]; show (S.remove _).1.cfg = _; unfold ShelfM.remove; split <;> rfl
  rw [if_neg q8]
  by_cases q9 : o.kind = 9
  · rw [if_pos q9]; show (S.insert _ _).1.cfg = _; unfold ShelfM.insert; split; rfl; split; rfl; split <;> rfl
  rw [if_neg q9]
  by_cases q10 : o.kind = 10
  · rw [if_pos q10]; show (S.replace _).1.cfg = _; unfold ShelfM.replace; split <;> rfl
  rw [if_neg q10]
  by_cases q11 : o.kind = 11
  · rw [if_pos q11]; exact arm_cfg _ _ _ _
  rw [if_neg q11]
  by_cases q12 : o.kind = 12
  · rw [if_pos q12]; exact arm_cfg _ _ _ _
  rw [if_neg q12]
  by_cases q13 : o.kind = 13
  · rw [if_pos q13]; exact arm_cfg _ _ _ _
  rw [if_neg q13]
theorem runN_cfg : ∀ (l : List (OpN × Value)) (S : ShelfM), (runN S l).cfg = S.cfg
  | [], _ => rfl
  | o :: l, S => by
    show (runN (doN S o.1).1 l).cfg = _
    rw [runN_cfg l, doN_cfg]

end Go.Proofs.Ytogmkbhbmmgidaa
