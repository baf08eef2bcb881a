/- Calls of a function value whose number is a variable: the law at the operation. It speaks of no program. -/
import Derived.Test.YtnilepaicnnbhaaGreatDoorAp
namespace Go.Sl
open Go Go.RowKit
section
variable {P : Program} {ops : Array Oper} {rest : List Oper} {o : Oper} {a : Act} {w : World} {Q : Exit → Act → World → Prop}
theorem wpList_callC (hg : o.guard = none) {f : FuncId} {args : Array Value} {R : Value → World → Prop} (hrun : (execOp a.eval o).run P w = .ok (.enter f args) w)
    (hc : Calls P f args w fun e w' => ∃ v, e = .returned v ∧ R v w') (h : ∀ v w', R v w' → wpList P ops Q rest (a.put o.dst v) w') : wpList P ops Q (o :: rest) a w := by
  refine wpList_plain hg fun K hK => ?_
  unfold Oper.wp
  rw [hrun]
  refine hc.mono fun e w'' hh => ?_
  obtain ⟨v, rfl, hr⟩ := hh
  exact hK _ _ (h v w'' hr)
theorem exec_callV1 {x y : Operand} {ts : Array TypeId} {f : FuncId} {cap : Array Value} {v : Value} (ho : o.op = .call { callee := .value x, args := #[y], argTypes := ts }) (hx : a.eval x = .func (.func f) #[] cap) (hy : a.eval y = v)
    (hcf : ∀ args w, (callFunc f args).run P w = .ok (.enter f args) w) : (execOp a.eval o).run P w = .ok (.enter f (#[v] ++ cap)) w := by
  unfold execOp
  simp [ho, resolve, Deferred.ofValue, invoke, hx, hy, hcf]
theorem exec_callV2 {x y z : Operand} {ts : Array TypeId} {f : FuncId} {cap : Array Value} {v u : Value} (ho : o.op = .call { callee := .value x, args := #[y, z], argTypes := ts }) (hx : a.eval x = .func (.func f) #[] cap) (hy : a.eval y = v) (hz : a.eval z = u)
    (hcf : ∀ args w, (callFunc f args).run P w = .ok (.enter f args) w) : (execOp a.eval o).run P w = .ok (.enter f (#[v, u] ++ cap)) w := by
  unfold execOp
  simp [ho, resolve, Deferred.ofValue, invoke, hx, hy, hz, hcf]
theorem exec_alloc_zero {e : TypeId} (ho : o.op = .alloc e) (z : Array Value) (hz : (zeroValue e).run P w = .ok (.agg z) w) :
    (execOp a.eval o).run P w = .ok (.value (.pointer (some ⟨w.heap.size, 0, none⟩))) (w.alloc (.cells z e)) := by
  unfold execOp
  simp [ho, Instr.alloc, hz, newVar, newRow, Value.cells]
theorem exec_store_fresh {ty : TypeId} {x y : Operand} (ho : o.op = .store ty x y) (T : TypeId) (old new : Array Value)
    (hx : a.eval x = .pointer (some ⟨w.heap.size, 0, none⟩)) (hy : a.eval y = .agg new) (hi : (P.info? ty).map (·.size) = some new.size) (hs : new.size = old.size) (h1 : ∀ v ∈ new.toList, v.oneCell' = true) :
    (execOp a.eval o).run P (w.alloc (.cells old T)) = .ok .skip (w.alloc (.cells new T)) := by
  refine exec_store ho hx hy ?_
  have hb : (w.alloc (.cells old T)).heap[w.heap.size]? = some (.cells old T (0, 0)) := heap_alloc_new w _
  have h := run_storeAt_mid (P := P) (w.alloc (.cells old T)) w.heap.size 0 ty new ?_ hi (Array.all_eq_true_iff_forall_mem.2 (fun v hv => h1 v (by simpa using hv)))
  · rw [h]
    rw [setCells_alloc w T new.toList 0 old (by simp; omega)]
    have : (old.toList.take 0 ++ new.toList ++ old.toList.drop (0 + new.toList.length)).toArray = new := by
      simp only [List.take_zero, List.nil_append, Nat.zero_add, Array.length_toList, hs]
      rw [List.drop_of_length_le (by simp)]; simp
    rw [this]
  · intro j hj
    simp only [Nat.zero_add]
    refine ⟨?_, thawed_at hb j⟩
    rw [cells_at hb j]; simp; omega
/-- A whole value stored into cells that are there. -/
theorem exec_store_row {ty : TypeId} {x y : Operand} (ho : o.op = .store ty x y) {b off : Nat} {new : Array Value} (hx : a.eval x = .pointer (some ⟨b, off, none⟩)) (hy : a.eval y = .agg new)
    (hi : (P.info? ty).map (·.size) = some new.size) (ht : w.there b off new.size) (h1 : ∀ v ∈ new.toList, v.oneCell' = true) :
    (execOp a.eval o).run P w = .ok .skip (w.setCells b off new.toList) :=
  exec_store ho hx hy (run_storeAt_mid (P := P) w b off ty new ht hi (Array.all_eq_true_iff_forall_mem.2 (fun v hv => h1 v (by simpa using hv))))
theorem exec_append {x y : Operand} {t : TypeId} {v u v' : Value} {w' : World} (ho : o.op = .call { callee := .builtin .append, args := #[x, y], argTypes := #[t, t] }) (hx : a.eval x = v) (hy : a.eval y = u)
    (h : (Builtin.append_ #[t, t] o.type #[v, u]).run P w = .ok v' w') : (execOp a.eval o).run P w = .ok (.value v') w' := by
  unfold execOp
  simp only [ho, resolve, invoke, builtin, Sem.run_bind, Sem.run_pure, Result.andThen_ok, List.map_toArray, List.map_cons, List.map_nil, hx, hy, h]
end

/-- A slice of ints that reads as a list, its capacity known to suffice. -/
def IntsC (w : World) (v : Value) (l : List Int) : Prop := ∃ ao cap, v = .slice ao l.length cap ∧ l.length ≤ cap ∧ (l ≠ [] → ∃ b off, ao = some ⟨b, off, none⟩ ∧ ∀ j x, l[j]? = some x → w.cell? ⟨b, off + j * 1, none⟩ = some (.int .i64 x))
theorem IntsC.at {w : World} {v : Value} {l : List Int} (h : IntsC w v l) : IntsAt w v l := by
  obtain ⟨ao, cap, rfl, _, h⟩ := h; exact ⟨ao, cap, rfl, h⟩
theorem IntsC.nil (w : World) : IntsC w (.slice none 0 0) [] := ⟨none, 0, rfl, Nat.le_refl _, fun h => absurd rfl h⟩
theorem IntsC.drop {w : World} {ao : Option Addr} {cap m : Nat} {l : List Int} (h : IntsC w (.slice ao l.length cap) l) (hm : m ≤ l.length) :
    IntsC w (.slice (if cap = m then ao else ao.map fun x => x.add m) (l.length - m) (cap - m)) (l.drop m) := by
  obtain ⟨ao', cap', he', hc, h3⟩ := h
  simp only [Value.slice.injEq, true_and] at he'
  obtain ⟨rfl, rfl⟩ := he'
  refine ⟨_, _, by rw [List.length_drop], by rw [List.length_drop]; omega, fun hne => ?_⟩
  have hlt : m < l.length := by
    rcases Nat.lt_or_ge m l.length with h | h
    · exact h
    · exact absurd (List.drop_eq_nil_of_le h) hne
  have hne2 : l ≠ [] := by rintro rfl; simp at hlt
  obtain ⟨b, off, rfl, hcell⟩ := h3 hne2
  refine ⟨b, off + m, ?_, fun j x hj => ?_⟩
  · rw [if_neg (by omega)]; simp [Addr.add_mid]
  · rw [List.getElem?_drop] at hj
    have := hcell (m + j) x hj
    rw [show off + m + j * 1 = off + (m + j) * 1 by omega]; exact this
section
variable {P : Program} {v : Value} {l : List Int} {w0 : World} {T e : TypeId}
theorem slice_hi (h : IntsC w0 v l) {m : Nat} (hm : m ≤ l.length) (hT : P.underlying T = some (.slice e)) (he : (P.info? e).map (·.size) = some 1) :
    ∃ v', (∀ w, (Instr.sliceAt T v none (some (.int .i64 (m : Int))) none).run P w = .ok v' w) ∧ ∀ w', IntsC w' v l → IntsC w' v' (l.take m) := by
  obtain ⟨ao, cap, rfl, hc, _⟩ := h
  obtain ⟨ti, hti, hts⟩ := Option.map_eq_some_iff.1 he
  have hmc : m ≤ cap := by omega
  refine ⟨.slice (if cap = 0 then ao else ao.map (·.add (0 * 1))) m cap, fun w => ?_, fun w' h' => ?_⟩
  · simp [Instr.sliceAt, Instr.slice, run_underlying hT, Instr.sliceBounds, Instr.sliceBound, asIntOf, sizeOf, typeInfo, hti, hmc]
  · obtain ⟨ao', cap', he', _, h3⟩ := h'
    simp only [Value.slice.injEq, true_and] at he'
    obtain ⟨rfl, rfl⟩ := he'
    refine ⟨_, _, by rw [List.length_take, Nat.min_eq_left hm], by rw [List.length_take]; omega, fun hne => ?_⟩
    have hne2 : l ≠ [] := by rintro rfl; simp at hne
    obtain ⟨b, off, rfl, hcell⟩ := h3 hne2
    refine ⟨b, off, ?_, fun j x hj => hcell j x ?_⟩
    · split
      · rfl
      · simp [Addr.add_mid]
    · rw [List.getElem?_take] at hj
      split at hj
      · exact hj
      · cases hj
theorem slice_lo (h : IntsC w0 v l) {m : Nat} (hm : m ≤ l.length) (hT : P.underlying T = some (.slice e)) (he : (P.info? e).map (·.size) = some 1) :
    ∃ v', (∀ w, (Instr.sliceAt T v (some (.int .i64 (m : Int))) none none).run P w = .ok v' w) ∧ ∀ w', IntsC w' v l → IntsC w' v' (l.drop m) := by
  obtain ⟨ao, cap, rfl, hc, _⟩ := h
  obtain ⟨ti, hti, hts⟩ := Option.map_eq_some_iff.1 he
  refine ⟨.slice (if cap = m then ao else ao.map (·.add (m * 1))) (l.length - m) (cap - m), fun w => ?_, fun w' h' => ?_⟩
  · simp [Instr.sliceAt, Instr.slice, run_underlying hT, Instr.sliceBounds, Instr.sliceBound, asIntOf, sizeOf, typeInfo, hti, hts, hm]
  · obtain ⟨ao', cap', he', _, h3⟩ := h'
    simp only [Value.slice.injEq, true_and] at he'
    obtain ⟨rfl, rfl⟩ := he'
    refine ⟨_, _, by rw [List.length_drop], by rw [List.length_drop]; omega, fun hne => ?_⟩
    have hlt : m < l.length := by
      rcases Nat.lt_or_ge m l.length with h | h
      · exact h
      · exact absurd (List.drop_eq_nil_of_le h) hne
    have hne2 : l ≠ [] := by rintro rfl; simp at hlt
    obtain ⟨b, off, rfl, hcell⟩ := h3 hne2
    refine ⟨b, off + m * 1, ?_, fun j x hj => ?_⟩
    · rw [if_neg (by omega)]; simp [Addr.add_mid]
    · rw [List.getElem?_drop] at hj
      have := hcell (m + j) x hj
      rw [show off + m * 1 + j * 1 = off + (m + j) * 1 by omega]; exact this
variable {ops : Array Oper} {rest : List Oper} {o : Oper} {a : Act} {w : World} {Q : Exit → Act → World → Prop}
theorem exec_slice_run {x : Operand} {lo hi : Option Operand} {p v' : Value} (ho : o.op = .slice T x lo hi none) (hx : a.eval x = p) (h : (Instr.sliceAt T p (lo.map a.eval) (hi.map a.eval) none).run P w = .ok v' w) : (execOp a.eval o).run P w = .ok (.value v') w := by
  unfold execOp
  simp [ho, hx, h]
theorem wpList_slice_lo (hg : o.guard = none) {p u v' : Value} (h : ∀ w, (Instr.sliceAt T p (some u) none none).run P w = .ok v' w) {x y : Operand} (ho : o.op = .slice T x (some y) none none) (hx : a.eval x = p) (hy : a.eval y = u)
    (k : wpList P ops Q rest (a.put o.dst v') w) : wpList P ops Q (o :: rest) a w := wpList_run hg (exec_slice_run ho hx (by simp [hy, h])) k
theorem wpList_slice_hi (hg : o.guard = none) {p u v' : Value} (h : ∀ w, (Instr.sliceAt T p none (some u) none).run P w = .ok v' w) {x y : Operand} (ho : o.op = .slice T x none (some y) none) (hx : a.eval x = p) (hy : a.eval y = u)
    (k : wpList P ops Q rest (a.put o.dst v') w) : wpList P ops Q (o :: rest) a w := wpList_run hg (exec_slice_run ho hx (by simp [hy, h])) k
end
end Go.Sl
