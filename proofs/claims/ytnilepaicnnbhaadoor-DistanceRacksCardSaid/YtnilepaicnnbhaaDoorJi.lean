/- package matrix: zero. -/
import Derived.Test.YtnilepaicnnbhaaDoorJh
namespace Go.GF
open Go Go.RowKit
section
variable {P : Program} {tmps : Array Value} {w : World}
/-- What a result variable holds. -/
inductive ResJ (P : Program) (tmps : Array Value) (w : World) : ResultVar → Value → Prop
  | tmp {t : Tmp} {v : Value} (h : tmps.getD t undef = v) : ResJ P tmps w (.tmp t) v
  | cell {p : Tmp} {ty : TypeId} {ad : Addr} {v : Value} (h : tmps.getD p undef = .pointer (some ad)) (hl : (loadVar ty ad).run P w = .ok v w) : ResJ P tmps w (.cell p ty) v
theorem ResJ.row {p : Tmp} {ty T : TypeId} {g : Nat} {cs : Array Value} {fr : Nat × Nat} {d : TypeDesc} (h : tmps.getD p undef = .pointer (some ⟨g, 0, none⟩)) (hg : w.heap[g]? = some (.cells cs T fr))
    (hu : P.underlying ty = some d) (hd : (match d with | .struct _ | .array _ _ => true | _ => false) = true) (hi : (P.info? ty).map (·.size) = some cs.size) : ResJ P tmps w (.cell p ty) (.agg cs) :=
  .cell h (run_loadVar_row w g T ty cs fr d hg hu hd hi)
theorem resultsJ {fn : Func} {r1 r2 : ResultVar} {v1 v2 : Value} (h : fn.results = #[r1, r2]) (h1 : ResJ P tmps w r1 v1) (h2 : ResJ P tmps w r2 v2) : (results fn tmps).run P w = .ok (.tuple #[v1, v2]) w := by
  cases h1 <;> cases h2 <;> simp_all [results, asAddr]
end
def zeroA (n : Nat) : Array Value := Array.replicate n (.int .i64 0)
theorem made_zero (n : Nat) : madeCells #[Value.int .i64 0] n = zeroA n := by
  unfold madeCells zeroA
  apply Array.ext
  · simp
  · intro i h1 h2
    simp [Nat.mod_one]
theorem zeroA_mat {w : World} {b R C : Nat} {t : TypeId} (h : w.heap[b]? = some (.cells (zeroA (R * C)) t (0, 0))) : MatB w b R C (fun _ _ => 0) :=
  ⟨_, _, h, by unfold zeroA; simp, fun i hi j hj => by unfold zeroA; simp [idx_lt hi hj]⟩
theorem al2_a (w : World) (a b : Obj) : ((w.alloc a).alloc b).heap[w.heap.size]? = some a := by
  rw [Below.heap_alloc _ _ _ (by simp)]; exact World.alloc_heap_new w a
theorem al2_b (w : World) (a b : Obj) : ((w.alloc a).alloc b).heap[w.heap.size + 1]? = some b := by
  have := World.alloc_heap_new (w.alloc a) b
  rwa [show (w.alloc a).heap.size = w.heap.size + 1 by simp] at this
/-- Four cells of a block of four are set. -/
theorem set4 {w : World} {g : Nat} {t : TypeId} {a b c d : Value} (x y z u : Value) (h : w.heap[g]? = some (.cells #[a, b, c, d] t (0, 0))) :
    ((((w.setCell ⟨g, 0, none⟩ x).setCell ⟨g, 1, none⟩ y).setCell ⟨g, 2, none⟩ z).setCell ⟨g, 3, none⟩ u).heap[g]? = some (.cells #[x, y, z, u] t (0, 0)) := by
  have h1 := heap_setCell_same w g 0 _ t x h
  have h2 := heap_setCell_same _ g 1 _ t y h1
  have h3 := heap_setCell_same _ g 2 _ t z h2
  have h4 := heap_setCell_same _ g 3 _ t u h3
  rw [h4]; simp
theorem set4_other {w : World} {g k : Nat} (x y z u : Value) (h : k ≠ g) : ((((w.setCell ⟨g, 0, none⟩ x).setCell ⟨g, 1, none⟩ y).setCell ⟨g, 2, none⟩ z).setCell ⟨g, 3, none⟩ u).heap[k]? = w.heap[k]? := by
  rw [heap_setCell_other _ _ _ _ h, heap_setCell_other _ _ _ _ h, heap_setCell_other _ _ _ _ h, heap_setCell_other _ _ _ _ h]
theorem set4_but {w : World} {g : Nat} (x y z u : Value) : But g w ((((w.setCell ⟨g, 0, none⟩ x).setCell ⟨g, 1, none⟩ y).setCell ⟨g, 2, none⟩ z).setCell ⟨g, 3, none⟩ u) :=
  (((But.set _ _ _ _).trans (But.set _ _ _ _)).trans (But.set _ _ _ _)).trans (But.set _ _ _ _)
end Go.GF
namespace Go.Proofs.YtnilepaicnnbhaaDoor
open Go.RowKit Go.GF Go.Sl
abbrev TM : TypeId := 61
theorem info_int3 : (Tryd.prog.info? TI).map (fun i => (i.zero, i.size, i.bytes)) = some (some (.int .i64 0), 1, 8) := by kernel_rfl
theorem info_mat : (Tryd.prog.info? TM).map (·.size) = some 4 := by kernel_rfl
theorem run_mkI (n : Nat) (hn : n ≤ 1024) (w : World) : (Instr.makeSlice 26 (.int .i64 (n : Int)) (.int .i64 (n : Int))).run Tryd.prog w = .ok (.slice (some ⟨w.heap.size, 0, none⟩) n n) (w.alloc (.cells (zeroA n) TI)) := by
  obtain ⟨i0, hi, hz0, hz1, hz2⟩ := info_parts info_int3
  have h := run_makeSlice (P := Tryd.prog) (w := w) 26 TI i0 _ Tryd.underlying26 hi hz0 .i64 .i64 n n (by omega) (by omega) (by rw [hz1]; omega) (by rw [hz2]; omega) (by omega)
  rw [h, hz1, Int.toNat_natCast, Nat.mul_one, show (Value.int .i64 0).cells = #[Value.int .i64 0] from rfl, made_zero]
theorem exec_makeJ {P : Program} {o : Oper} {a : Act} {w w' : World} {T : TypeId} {x y : Operand} {vx vy v : Value} (ho : o.op = .makeSlice T x y) (hx : a.eval x = vx) (hy : a.eval y = vy) (h : (Instr.makeSlice T vx vy).run P w = .ok v w') :
    (execOp a.eval o).run P w = .ok (.value v) w' := by
  unfold execOp; simp [ho, hx, hy, h]

set_option maxRecDepth 20000 in
set_option maxHeartbeats 1000000 in
theorem zero_any (m R C : Nat) (hR : R ≤ 32) (hC : C ≤ 32) (w : World) :
    Calls Tryd.prog 69 #[.int .i64 (m : Int), .int .i64 (R : Int), .int .i64 (C : Int)] w fun e w' => ∃ b, e = .returned (.agg (matV m R C b (R * C))) ∧ w.heap.size ≤ b ∧ MatB w' b R C (fun _ _ => 0) ∧ Below w.heap.size w w' := by
  have h4 : R * C ≤ 32 * 32 := Nat.mul_le_mul hR hC
  have hw1 : IntKind.i64.wrap ((R : Int) * (C : Int)) = ((R * C : Nat) : Int) := by
    rw [show (R : Int) * (C : Int) = ((R * C : Nat) : Int) by simp]; exact wrap_nat (by omega)
  unfold matV
  obtain ⟨N, hN⟩ : ∃ N, R * C = N := ⟨_, rfl⟩
  rw [hN] at hw1
  have HN := Lib.hid hN
  have HK := Lib.hid (fun W => run_mkI N (by omega) W)
  clear h4 hN hR hC
  rw [HN.out]
  go_enter Tryd.func69, Tryd.ntmps69
  go_wp2_with (at_make; refine wpList_run rfl (exec_makeJ rfl rfl rfl (HK.out _)) ?_)
  refine bodyPost_ret (v := .agg (matV m R C (w.heap.size + 1) N)) (results_cell_row Tryd.results69 _ _ w.heap.size TM (matV m R C (w.heap.size + 1) N) (0, 0) _ rfl (by unfold matV; rw [HN.out]; exact al2_a _ _ _) Tryd.underlying61 rfl info_mat) rfl ?_
  refine ⟨w.heap.size + 1, by unfold matV; rw [HN.out], by omega, zeroA_mat (t := TI) (by rw [HN.out]; exact al2_b _ _ _), (al_below w _).trans ((al_below _ _).mono (by simp))⟩
end Go.Proofs.YtnilepaicnnbhaaDoor
