/- Laws of copy and clear on rows of elements of several cells. It speaks of no program. -/
import Derived.Test.YtnilepaicnnbhaaGreatDoorAp
import Derived.Laws.CopyRow
namespace Go.Sl
open Go Go.RowKit
section
variable {P : Program} {w : World}
theorem run_copy_rowK (dT sT ty e : TypeId) (i : TypeInfo) (ht : P.underlying dT = some (.slice e)) (hi : P.info? e = some i) (g o dLen dCap : Nat) (a : Addr) (sLen sCap m : Nat) (cur : Array Value) (cs : List Value)
    (hg : w.heap[g]? = some (.cells cur e (0, 0))) (hm : Nat.min sLen dLen = m) (hn : cs.length = m * i.size) (hsrc : ∀ j u, cs[j]? = some u → w.cell? (a.add j) = some u) (hfit : o + cs.length ≤ cur.size) (h1 : ∀ u ∈ cs, u.oneCell' = true) :
    (Builtin.copy_ #[dT, sT] ty #[.slice (some ⟨g, o, none⟩) dLen dCap, .slice (some a) sLen sCap]).run P w = .ok (goInt m) (w.setRow g (cur.toList.take o ++ cs ++ cur.toList.drop (o + cs.length)).toArray) := by
  have hf := run_firstCells_some (P := P) w i.size m a sLen sCap cs hn hsrc
  have hst := run_storeCells_at P g o e cs 0 cur w hg (by simpa using hfit) h1
  simp only [Nat.add_zero] at hst
  simp [Builtin.copy_, run_underlying ht, Builtin.lenOf, sizeOf, typeInfo, hi, hm, hf, hst]
theorem run_clear_row (t e ty : TypeId) (z : Value) (ht : P.underlying t = some (.slice e)) (hv : ∀ w, (zeroValue e).run P w = .ok z w) (g o n c : Nat) (cur : Array Value) (hg : w.heap[g]? = some (.cells cur e (0, 0))) (hn : 0 < n)
    (hl : (Builtin.zeroCells z.cells n).toList.length = n * z.cells.size) (hfit : o + n * z.cells.size ≤ cur.size) (h1 : ∀ u ∈ (Builtin.zeroCells z.cells n).toList, u.oneCell' = true) :
    (Builtin.clear_ #[t] ty #[.slice (some ⟨g, o, none⟩) n c]).run P w = .ok (.tuple #[]) (w.setRow g (cur.toList.take o ++ (Builtin.zeroCells z.cells n).toList ++ cur.toList.drop (o + n * z.cells.size)).toArray) := by
  have hst := run_storeCells_at P g o e (Builtin.zeroCells z.cells n).toList 0 cur w hg (by rw [hl]; simpa using hfit) h1
  simp only [Nat.add_zero, hl] at hst
  obtain ⟨m, rfl⟩ : ∃ m, n = m + 1 := ⟨n - 1, by omega⟩
  simp [Builtin.clear_, run_underlying ht, hv, hst]
variable {ops : Array Oper} {rest : List Oper} {o : Oper} {a : Act} {Q : Exit → Act → World → Prop}
theorem wpList_copy_row (hg : o.guard = none) (d s : Operand) (t t' : TypeId) (ho : o.op = .call { callee := .builtin .copy, args := #[d, s], argTypes := #[t, t'] }) {dv sv v' : Value} {w' : World} (hd : a.eval d = dv) (hs : a.eval s = sv)
    (hr : (Builtin.copy_ #[t, t'] o.type #[dv, sv]).run P w = .ok v' w') (k : wpList P ops Q rest (a.put o.dst v') w') : wpList P ops Q (o :: rest) a w := by
  refine wpList_run hg (v := v') (w' := w') ?_ k
  unfold execOp
  simp only [ho, resolve, invoke, builtin, Sem.run_bind, Sem.run_pure, Result.andThen_ok, List.map_toArray, List.map_cons, List.map_nil, hd, hs, hr]
theorem exec_copy_row (d s : Operand) (t t' : TypeId) (ho : o.op = .call { callee := .builtin .copy, args := #[d, s], argTypes := #[t, t'] }) {dv sv v' : Value} {w' : World} (hd : a.eval d = dv) (hs : a.eval s = sv)
    (hr : (Builtin.copy_ #[t, t'] o.type #[dv, sv]).run P w = .ok v' w') : (execOp a.eval o).run P w = .ok (.value v') w' := by
  unfold execOp
  simp only [ho, resolve, invoke, builtin, Sem.run_bind, Sem.run_pure, Result.andThen_ok, List.map_toArray, List.map_cons, List.map_nil, hd, hs, hr]
theorem wpList_append_row (hg : o.guard = none) (d s : Operand) (t t' : TypeId) (ho : o.op = .call { callee := .builtin .append, args := #[d, s], argTypes := #[t, t'] }) {dv sv v' : Value} {w' : World} (hd : a.eval d = dv) (hs : a.eval s = sv)
    (hr : (Builtin.append_ #[t, t'] o.type #[dv, sv]).run P w = .ok v' w') (k : wpList P ops Q rest (a.put o.dst v') w') : wpList P ops Q (o :: rest) a w := by
  refine wpList_run hg (v := v') (w' := w') ?_ k
  unfold execOp
  simp only [ho, resolve, invoke, builtin, Sem.run_bind, Sem.run_pure, Result.andThen_ok, List.map_toArray, List.map_cons, List.map_nil, hd, hs, hr]
theorem exec_append_row (d s : Operand) (t t' : TypeId) (ho : o.op = .call { callee := .builtin .append, args := #[d, s], argTypes := #[t, t'] }) {dv sv v' : Value} {w' : World} (hd : a.eval d = dv) (hs : a.eval s = sv)
    (hr : (Builtin.append_ #[t, t'] o.type #[dv, sv]).run P w = .ok v' w') : (execOp a.eval o).run P w = .ok (.value v') w' := by
  unfold execOp
  simp only [ho, resolve, invoke, builtin, Sem.run_bind, Sem.run_pure, Result.andThen_ok, List.map_toArray, List.map_cons, List.map_nil, hd, hs, hr]
theorem wpList_clear_row (hg : o.guard = none) (x : Operand) (t : TypeId) (ho : o.op = .call { callee := .builtin .clear, args := #[x], argTypes := #[t] }) {xv v' : Value} {w' : World} (hx : a.eval x = xv)
    (hr : (Builtin.clear_ #[t] o.type #[xv]).run P w = .ok v' w') (k : wpList P ops Q rest (a.put o.dst v') w') : wpList P ops Q (o :: rest) a w := by
  refine wpList_run hg (v := v') (w' := w') ?_ k
  unfold execOp
  simp only [ho, resolve, invoke, builtin, Sem.run_bind, Sem.run_pure, Result.andThen_ok, List.map_toArray, List.map_cons, List.map_nil, hx, hr]
theorem exec_sl_run {T : TypeId} {x : Operand} {lo hi : Option Operand} {p v' : Value} (ho : o.op = .slice T x lo hi none) (hx : a.eval x = p) (h : (Instr.sliceAt T p (lo.map a.eval) (hi.map a.eval) none).run P w = .ok v' w) : (execOp a.eval o).run P w = .ok (.value v') w := by
  unfold execOp
  simp [ho, hx, h]
theorem wpList_sl (hg : o.guard = none) (T : TypeId) (x : Operand) (lo hi : Option Operand) (ho : o.op = .slice T x lo hi none) {p v' : Value} {vlo vhi : Option Value} (hx : a.eval x = p) (hlo : lo.map a.eval = vlo) (hhi : hi.map a.eval = vhi)
    (h : (Instr.sliceAt T p vlo vhi none).run P w = .ok v' w) (k : wpList P ops Q rest (a.put o.dst v') w) : wpList P ops Q (o :: rest) a w := by
  subst hlo hhi
  exact wpList_run hg (exec_sl_run ho hx h) k
section
variable {T e : TypeId} {k : Nat} (hu : P.underlying T = some (.slice e)) (he : (P.info? e).map (·.size) = some k) (b off n cap : Nat)
include hu he
theorem run_sl_hi (hi : Nat) (h : hi ≤ cap) (w : World) : (Instr.sliceAt T (.slice (some ⟨b, off, none⟩) n cap) none (some (.int .i64 (hi : Int))) none).run P w = .ok (.slice (some ⟨b, off, none⟩) hi cap) w := by
  obtain ⟨ti, hti, hts⟩ := Option.map_eq_some_iff.1 he
  simp [Instr.sliceAt, Instr.slice, run_underlying hu, Instr.sliceBounds, Instr.sliceBound, asIntOf, sizeOf, typeInfo, hti, h, Addr.add_mid]
theorem run_sl_lo (lo : Nat) (h : lo ≤ n) (w : World) : (Instr.sliceAt T (.slice (some ⟨b, off, none⟩) n cap) (some (.int .i64 (lo : Int))) none none).run P w = .ok (.slice (some (if cap = lo then ⟨b, off, none⟩ else ⟨b, off + lo * k, none⟩)) (n - lo) (cap - lo)) w := by
  obtain ⟨ti, hti, hts⟩ := Option.map_eq_some_iff.1 he
  by_cases hc : cap = lo
  · simp [Instr.sliceAt, Instr.slice, run_underlying hu, Instr.sliceBounds, Instr.sliceBound, asIntOf, sizeOf, typeInfo, hti, h, Addr.add_mid, hc]
  · simp [Instr.sliceAt, Instr.slice, run_underlying hu, Instr.sliceBounds, Instr.sliceBound, asIntOf, sizeOf, typeInfo, hti, h, Addr.add_mid, hts, hc]
theorem run_sl_both (lo hi : Nat) (h1 : lo ≤ hi) (h2 : hi ≤ cap) (w : World) : (Instr.sliceAt T (.slice (some ⟨b, off, none⟩) n cap) (some (.int .i64 (lo : Int))) (some (.int .i64 (hi : Int))) none).run P w = .ok (.slice (some (if cap = lo then ⟨b, off, none⟩ else ⟨b, off + lo * k, none⟩)) (hi - lo) (cap - lo)) w := by
  obtain ⟨ti, hti, hts⟩ := Option.map_eq_some_iff.1 he
  by_cases hc : cap = lo
  · simp [Instr.sliceAt, Instr.slice, run_underlying hu, Instr.sliceBounds, Instr.sliceBound, asIntOf, sizeOf, typeInfo, hti, h1, Addr.add_mid, hts, hc]
    omega
  · simp [Instr.sliceAt, Instr.slice, run_underlying hu, Instr.sliceBounds, Instr.sliceBound, asIntOf, sizeOf, typeInfo, hti, h1, h2, Addr.add_mid, hts, hc]
end
end
end Go.Sl
