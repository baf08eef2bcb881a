import Derived.Test.YteikbikopgabjaaGreatDoorH02
import Derived.Test.YteikbikopgabjaaGreatDoorH01
import Derived.Maps.Own
import Derived.Maps.OwnSet
import Derived.Deep.MidRow
/- Part 6 of a proof; the last part says what is proved. -/
section
namespace Go.Sl
open Go Go.RowKit
section
variable {P : Program} {ops : Array Oper} {Q : Exit → Act → World → Prop} {S : World → Prop}
def CallsQ (P : Program) (ops : Array Oper) (S : World → Prop) (o : Oper) (v : Value) (a : Act) : Prop :=
 Region.wanted o (yielded ops a.tmps) = true ∧ ∀ w, S w → ∃ f args, (execOp a.eval o).run P w = .ok (.enter f args) w ∧ Calls P f args w fun e w' => e = .returned v ∧ w = w'
theorem CallsQ.wpOp {i : Nat} {o : Oper} {v : Value} {a : Act} (hi : ops[i]? = some o) (hy : CallsQ P ops S o v a) {K : Act → World → Prop} {w : World} (hS : S w) (h : K (a.put o.dst v) w) : wpOp P ops Q i K a w := by
 obtain ⟨hw, hv⟩ := hy
 obtain ⟨f, args, hr, hc⟩ := hv w hS
 unfold Go.wpOp
 simp only [hi, hw, if_true]
 left
 unfold Oper.wp
 rw [hr]
 refine hc.mono ?_
 rintro e w' ⟨rfl, rfl⟩
 exact h
theorem CallsQ.of_same {o : Oper} {v : Value} {a a' : Act} (hy : CallsQ P ops S o v a) (he : execOp a'.eval o = execOp a.eval o)
  (hw : Region.wanted o (yielded ops a'.tmps) = Region.wanted o (yielded ops a.tmps)) : CallsQ P ops S o v a' := by
 unfold CallsQ at *
 rw [he, hw]; exact hy
end
section
variable {P : Program} {ops : Array Oper} {Q : Exit → Act → World → Prop} {S : World → Prop} {fuel : Nat} {listed : Array Bool} {t : Array Value} {df : List Deferred} {w : World}
end
end Go.Sl
end
section
namespace Go.Sl
open Go Go.RowKit
section
variable {P : Program} {ops : Array Oper} {rest : List Oper} {o : Oper} {a : Act} {w : World} {Q : Exit → Act → World → Prop}
theorem wpList_callC (hg : o.guard = none) {f : FuncId} {args : Array Value} {R : Value → World → Prop} (hrun : (execOp a.eval o).run P w = .ok (.enter f args) w)
  (hc : Calls P f args w fun e w' => ∃ v, e = .returned v ∧ R v w') (h : ∀ v w', R v w' → wpList P ops Q rest (a.put o.dst v) w') : wpList P ops Q (o :: rest) a w := by
 refine wpList_plain hg fun K hK => ?_
 unfold Oper.wp
 rw [hrun]
 refine hc.mono fun e w'' hh => ?_
 obtain ⟨v, rfl, hr⟩ := hh
 exact hK _ _ (h v w'' hr)
theorem exec_callV1 {x y : Operand} {ts : Array TypeId} {f : FuncId} {cap : Array Value} {v : Value} (ho : o.op = .call { callee := .value x, args := #[y], argTypes := ts }) (hx : a.eval x = .func (.func f) #[] cap) (hy : a.eval y = v)
  (hcf : ∀ args w, (callFunc f args).run P w = .ok (.enter f args) w) : (execOp a.eval o).run P w = .ok (.enter f (#[v] ++ cap)) w := by
 unfold execOp
 simp [ho, resolve, Deferred.ofValue, invoke, hx, hy, hcf]
theorem exec_callV2 {x y z : Operand} {ts : Array TypeId} {f : FuncId} {cap : Array Value} {v u : Value} (ho : o.op = .call { callee := .value x, args := #[y, z], argTypes := ts }) (hx : a.eval x = .func (.func f) #[] cap) (hy : a.eval y = v) (hz : a.eval z = u)
  (hcf : ∀ args w, (callFunc f args).run P w = .ok (.enter f args) w) : (execOp a.eval o).run P w = .ok (.enter f (#[v, u] ++ cap)) w := by
 unfold execOp
 simp [ho, resolve, Deferred.ofValue, invoke, hx, hy, hz, hcf]
theorem exec_alloc_zero {e : TypeId} (ho : o.op = .alloc e) (z : Array Value) (hz : (zeroValue e).run P w = .ok (.agg z) w) :
  (execOp a.eval o).run P w = .ok (.value (.pointer (some ⟨w.heap.size, 0, none⟩))) (w.alloc (.cells z e)) := by
 unfold execOp
 simp [ho, Instr.alloc, hz, newVar, newRow, Value.cells]
theorem exec_append {x y : Operand} {t : TypeId} {v u v' : Value} {w' : World} (ho : o.op = .call { callee := .builtin .append, args := #[x, y], argTypes := #[t, t] }) (hx : a.eval x = v) (hy : a.eval y = u)
  (h : (Builtin.append_ #[t, t] o.type #[v, u]).run P w = .ok v' w') : (execOp a.eval o).run P w = .ok (.value v') w' := by
 unfold execOp
 simp only [ho, resolve, invoke, builtin, Sem.run_bind, Sem.run_pure, Result.andThen_ok, List.map_toArray, List.map_cons, List.map_nil, hx, hy, h]
end
def IntsC (w : World) (v : Value) (l : List Int) : Prop := ∃ ao cap, v = .slice ao l.length cap ∧ l.length ≤ cap ∧ (l ≠ [] → ∃ b off, ao = some ⟨b, off, none⟩ ∧ ∀ j x, l[j]? = some x → w.cell? ⟨b, off + j * 1, none⟩ = some (.int .i64 x))
theorem IntsC.at {w : World} {v : Value} {l : List Int} (h : IntsC w v l) : IntsAt w v l := by
 obtain ⟨ao, cap, rfl, _, h⟩ := h; exact ⟨ao, cap, rfl, h⟩
theorem IntsC.nil (w : World) : IntsC w (.slice none 0 0) [] := ⟨none, 0, rfl, Nat.le_refl _, fun h => absurd rfl h⟩
theorem IntsC.drop {w : World} {ao : Option Addr} {cap m : Nat} {l : List Int} (h : IntsC w (.slice ao l.length cap) l) (hm : m ≤ l.length) :
  IntsC w (.slice (if cap = m then ao else ao.map fun x => x.add m) (l.length - m) (cap - m)) (l.drop m) := by
 obtain ⟨ao', cap', he', hc, h3⟩ := h
 simp only [Value.slice.injEq, true_and] at he'
 obtain ⟨rfl, rfl⟩ := he'
 refine ⟨_, _, by rw [List.length_drop], by rw [List.length_drop]; omega, fun hne => ?_⟩
 have hlt : m < l.length := by
  rcases Nat.lt_or_ge m l.length with h | h
  ·exact h
  ·exact absurd (List.drop_eq_nil_of_le h) hne
 have hne2 : l ≠ [] := by rintro rfl; simp at hlt
 obtain ⟨b, off, rfl, hcell⟩ := h3 hne2
 refine ⟨b, off + m, ?_, fun j x hj => ?_⟩
 ·rw [if_neg (by omega)]; simp [Addr.add_mid]
 ·rw [List.getElem?_drop] at hj
  have := hcell (m + j) x hj
  rw [show off + m + j * 1 = off + (m + j) * 1 by omega]; exact this
section
variable {P : Program} {v : Value} {l : List Int} {w0 : World} {T e : TypeId}
variable {ops : Array Oper} {rest : List Oper} {o : Oper} {a : Act} {w : World} {Q : Exit → Act → World → Prop}
end
end Go.Sl
end
section
namespace Go.Sl
open Go Go.RowKit Go.ChangeMaps
abbrev KV := List (Int × Value)
def lk : KV → Int → Option Value
 | [], _ => none
 | (a, v) :: r, k => if k = a then some v else lk r k
def upd : KV → Int → Value → KV
 | [], k, v => [(k, v)]
 | (a, x) :: r, k, v => if k = a then (a, v) :: r else (a, x) :: upd r k v
def del : KV → Int → KV
 | [], _ => []
 | (a, x) :: r, k => if k = a then r else (a, x) :: del r k
def fidx : KV → Int → Nat → Option (Nat × Value)
 | [], _, _ => none
 | (a, v) :: r, k, i => if k = a then some (i, v) else fidx r k (i + 1)
theorem fidx_lk (l : KV) (k : Int) : ∀ i, (fidx l k i).map (·.2) = lk l k := by
 induction l with
 | nil => intro i; rfl
 | cons p r ih => obtain ⟨a, v⟩ := p; intro i; unfold fidx lk; split <;> simp [ih]
theorem fidx_ge (l : KV) (k : Int) : ∀ i j v, fidx l k i = some (j, v) → i ≤ j ∧ j < i + l.length := by
 induction l with
 | nil => intro i j v h; simp [fidx] at h
 | cons p r ih =>
  obtain ⟨a, x⟩ := p
  intro i j v h
  unfold fidx at h
  split at h
  ·simp at h; simp; omega
  ·have := ih _ _ _ h; simp; omega
theorem lk_upd (l : KV) (k : Int) (v : Value) (k' : Int) : lk (upd l k v) k' = if k' = k then some v else lk l k' := by
 induction l with
 | nil => simp [upd, lk]
 | cons p r ih =>
  obtain ⟨a, x⟩ := p
  unfold upd
  by_cases h : k = a
  ·subst h; simp only [if_true, lk]
   by_cases h' : k' = k <;> simp [h']
  ·simp only [h, if_false, lk, ih]
   by_cases h' : k' = a
   ·subst h'; simp [Ne.symm h]
   ·simp [h']
theorem keys_upd (l : KV) (k : Int) (v : Value) : (upd l k v).map (·.1) = if k ∈ l.map (·.1) then l.map (·.1) else l.map (·.1) ++ [k] := by
 induction l with
 | nil => simp [upd]
 | cons p r ih =>
  obtain ⟨a, x⟩ := p
  unfold upd
  by_cases h : k = a
  ·subst h; simp
  ·simp only [h, if_false, List.map_cons, ih, List.mem_cons, false_or]
   by_cases h' : k ∈ r.map (·.1) <;> simp only [h', if_true, if_false, List.cons_append]
theorem nodup_upd {l : KV} (h : (l.map (·.1)).Nodup) (k : Int) (v : Value) : ((upd l k v).map (·.1)).Nodup := by
 rw [keys_upd]
 split
 ·exact h
 ·rename_i hk
  rw [List.nodup_append]
  refine ⟨h, by simp, ?_⟩
  intro a ha b hb
  simp at hb; subst hb
  rintro rfl; exact hk ha
theorem mem_keys_del {l : KV} {k a : Int} (h : a ∈ (del l k).map (·.1)) : a ∈ l.map (·.1) := by
 induction l with
 | nil => simp [del] at h
 | cons p r ih =>
  obtain ⟨b, x⟩ := p
  unfold del at h
  split at h
  ·simp only [List.map_cons, List.mem_cons]; exact .inr h
  ·simp only [List.map_cons, List.mem_cons] at h ⊢
   rcases h with h | h
   ·exact .inl h
   ·exact .inr (ih h)
theorem nodup_del {l : KV} (h : (l.map (·.1)).Nodup) (k : Int) : ((del l k).map (·.1)).Nodup := by
 induction l with
 | nil => simp [del]
 | cons p r ih =>
  obtain ⟨b, x⟩ := p
  simp only [List.map_cons, List.nodup_cons] at h
  unfold del
  split
  ·exact h.2
  ·simp only [List.map_cons, List.nodup_cons]
   exact ⟨fun hm => h.1 (mem_keys_del hm), ih h.2⟩
theorem lk_none_of_not_mem {l : KV} {k : Int} (h : k ∉ l.map (·.1)) : lk l k = none := by
 induction l with
 | nil => rfl
 | cons p r ih =>
  obtain ⟨b, x⟩ := p
  simp only [List.map_cons, List.mem_cons, not_or] at h
  unfold lk; rw [if_neg h.1]; exact ih h.2
theorem lk_del {l : KV} (h : (l.map (·.1)).Nodup) (k k' : Int) : lk (del l k) k' = if k' = k then none else lk l k' := by
 induction l with
 | nil => simp [del, lk]
 | cons p r ih =>
  obtain ⟨a, x⟩ := p
  simp only [List.map_cons, List.nodup_cons] at h
  unfold del
  by_cases hk : k = a
  ·subst hk
   simp only [if_true, lk]
   by_cases h' : k' = k
   ·subst h'; simp [lk_none_of_not_mem h.1]
   ·simp [h']
  ·simp only [hk, if_false, lk, ih h.2]
   by_cases h' : k' = a
   ·subst h'; simp [Ne.symm hk]
   ·simp [h']
structure MapL (es : Array MapEntry) (clock : Nat) (l : KV) : Prop where
 ent : es.toList.map (fun e => (e.key, e.val)) = l.map fun p => (Value.int .i64 p.1, p.2)
 nodup : (l.map (·.1)).Nodup
 born : (es.toList.map (·.born)).Nodup
 clock : ∀ e ∈ es.toList, e.born < clock
theorem MapL.empty (clock : Nat) : MapL #[] clock [] := ⟨rfl, by simp, by simp, by simp⟩
theorem MapL.size {es : Array MapEntry} {clock : Nat} {l : KV} (h : MapL es clock l) : es.size = l.length := by
 have := congrArg List.length h.ent; simpa using this
theorem findNow_int (q : IntKind) (k : Int) : ∀ (es : List MapEntry) (l : KV) (i : Nat), es.map (fun e => (e.key, e.val)) = l.map (fun p => (Value.int .i64 p.1, p.2)) →
  Instr.findNow (.int q) (.int .i64 k) es i = some (fidx l k i) := by
 intro es
 induction es with
 | nil => intro l i h; cases l with
  | nil => rfl
  | cons p r => simp at h
 | cons e r ih =>
  intro l i h
  cases l with
  | nil => simp at h
  | cons p t =>
   obtain ⟨a, v⟩ := p
   simp only [List.map_cons, List.cons.injEq, Prod.mk.injEq] at h
   obtain ⟨⟨hk, hv⟩, ht⟩ := h
   unfold Instr.findNow fidx
   rw [hk, hv]
   simp only [Instr.sameNow, if_true]
   by_cases hka : k = a
   ·subst hka; simp
   ·have : (k == a) = false := by simp [hka]
    rw [this]; simp only [hka, if_false]; exact ih t (i + 1) ht
section
variable {P : Program} {w : World} {r clock : Nat} {es : Array MapEntry} {l : KV}
theorem run_checkKey_int {K : TypeId} {q : IntKind} (hK : P.underlying K = some (.int q)) (b : Bool) (x : Value) (w : World) :
  (Instr.checkKey b 10000 K x).run P w = .ok () w := by
 rw [show (10000 : Nat) = 9999 + 1 from rfl]
 unfold Instr.checkKey
 simp only [Sem.run_bind, run_underlying hK, Result.andThen_ok]
 rfl
theorem run_findKey_int {K : TypeId} {q : IntKind} (hK : P.underlying K = some (.int q)) (hl : MapL es clock l) (k : Int) (w : World) :
  (Instr.findKey K (.int .i64 k) es.toList).run P w = .ok (fidx l k 0) w := by
 simp [Instr.findKey, run_underlying hK, findNow_int q k es.toList l 0 hl.ent]
theorem run_lookup_ok {T K E : TypeId} {q : IntKind} (hT : P.underlying T = some (.map K E)) (hK : P.underlying K = some (.int q)) {z : Value} (hz : (zeroValue E).run P w = .ok z w)
  (hb : w.heap[r]? = some (.map es clock)) (hl : MapL es clock l) (k : Int) :
  (Instr.lookup T (.map (some r)) (.int .i64 k) true).run P w = .ok (.tuple #[(lk l k).getD z, .bool (lk l k).isSome]) w := by
 have hlk := fidx_lk l k 0
 simp only [Instr.lookup, Sem.run_bind, run_underlying hT, Result.andThen_ok, MapKept.run_getObj_map hb, Sem.run_pure, run_checkKey_int hK, run_findKey_int hK hl]
 cases hf : fidx l k 0 with
 | none =>
  rw [hf] at hlk
  simp only [Option.map_none] at hlk
  simp [← hlk, hz]
 | some p =>
  rw [hf] at hlk
  simp only [Option.map_some] at hlk
  simp [← hlk]
theorem run_lookup_at {T K E : TypeId} {q : IntKind} (hT : P.underlying T = some (.map K E)) (hK : P.underlying K = some (.int q)) {z : Value} (hz : (zeroValue E).run P w = .ok z w)
  (hb : w.heap[r]? = some (.map es clock)) (hl : MapL es clock l) (k : Int) :
  (Instr.lookup T (.map (some r)) (.int .i64 k) false).run P w = .ok ((lk l k).getD z) w := by
 have hlk := fidx_lk l k 0
 simp only [Instr.lookup, Sem.run_bind, run_underlying hT, Result.andThen_ok, MapKept.run_getObj_map hb, Sem.run_pure, run_checkKey_int hK, run_findKey_int hK hl]
 cases hf : fidx l k 0 with
 | none =>
  rw [hf] at hlk
  simp only [Option.map_none] at hlk
  simp [← hlk, hz]
 | some p =>
  rw [hf] at hlk
  simp only [Option.map_some] at hlk
  simp [← hlk]
theorem fidx_upd {es : List MapEntry} {f : MapEntry → MapEntry} {k : Int} {v : Value} : ∀ {l : KV} {i j : Nat} {x : Value}, es.map (fun e => (e.key, e.val)) = l.map (fun p => (Value.int .i64 p.1, p.2)) →
  fidx l k i = some (i + j, x) → (∀ e, (f e).key = .int .i64 k ∧ (f e).val = v) → (es.modify j f).map (fun e => (e.key, e.val)) = (upd l k v).map (fun p => (Value.int .i64 p.1, p.2)) := by
 induction es with
 | nil => intro l i j x h hf hp; cases l with
  | nil => simp [fidx] at hf
  | cons p t => simp at h
 | cons e r ih =>
  intro l i j x h hf hp
  cases l with
  | nil => simp at h
  | cons p t =>
   obtain ⟨a, y⟩ := p
   simp only [List.map_cons, List.cons.injEq, Prod.mk.injEq] at h
   unfold fidx at hf
   unfold upd
   by_cases hka : k = a
   ·subst hka
    simp only [if_true, Option.some.injEq, Prod.mk.injEq] at hf
    obtain rfl : j = 0 := by omega
    simp only [if_true, List.modify_zero_cons, List.map_cons, h.2, (hp e).1, (hp e).2]
   ·simp only [hka, if_false] at hf ⊢
    have hge := fidx_ge _ _ _ _ _ hf
    obtain ⟨j', rfl⟩ : ∃ j', j = j' + 1 := ⟨j - 1, by omega⟩
    simp only [List.modify_succ_cons, List.map_cons, h.1]
    rw [ih (i := i + 1) (j := j') (x := x) h.2 (by rw [hf]; congr 2; omega) hp]
theorem fidx_none_upd {l : KV} {k : Int} {v : Value} : ∀ {i : Nat}, fidx l k i = none → upd l k v = l ++ [(k, v)] := by
 induction l with
 | nil => intro i _; rfl
 | cons p t ih =>
  obtain ⟨a, y⟩ := p
  intro i h
  unfold fidx at h
  unfold upd
  by_cases hka : k = a
  ·simp [hka] at h
  ·simp only [hka, if_false] at h ⊢
   rw [ih h]; rfl
theorem fidx_del {es : List MapEntry} {k : Int} : ∀ {l : KV} {i j : Nat} {x : Value}, es.map (fun e => (e.key, e.val)) = l.map (fun p => (Value.int .i64 p.1, p.2)) →
  fidx l k i = some (i + j, x) → (es.eraseIdx j).map (fun e => (e.key, e.val)) = (del l k).map (fun p => (Value.int .i64 p.1, p.2)) := by
 induction es with
 | nil => intro l i j x h hf; cases l with
  | nil => simp [fidx] at hf
  | cons p t => simp at h
 | cons e r ih =>
  intro l i j x h hf
  cases l with
  | nil => simp at h
  | cons p t =>
   obtain ⟨a, y⟩ := p
   simp only [List.map_cons, List.cons.injEq, Prod.mk.injEq] at h
   unfold fidx at hf
   unfold del
   by_cases hka : k = a
   ·subst hka
    simp only [if_true, Option.some.injEq, Prod.mk.injEq] at hf
    obtain rfl : j = 0 := by omega
    simp only [if_true, List.eraseIdx_zero, List.tail_cons, h.2]
   ·simp only [hka, if_false] at hf ⊢
    have hge := fidx_ge _ _ _ _ _ hf
    obtain ⟨j', rfl⟩ : ∃ j', j = j' + 1 := ⟨j - 1, by omega⟩
    simp only [List.eraseIdx_cons_succ, List.map_cons, h.1]
    rw [ih (i := i + 1) (j := j') (x := x) h.2 (by rw [hf]; congr 2; omega)]
theorem fidx_none_del {l : KV} {k : Int} : ∀ {i : Nat}, fidx l k i = none → del l k = l := by
 induction l with
 | nil => intro i _; rfl
 | cons p t ih =>
  obtain ⟨a, y⟩ := p
  intro i h
  unfold fidx at h
  unfold del
  by_cases hka : k = a
  ·simp [hka] at h
  ·simp only [hka, if_false] at h ⊢
   rw [ih h]
theorem run_mapUpdate_kv {T K E : TypeId} {q : IntKind} (hT : P.underlying T = some (.map K E)) (hK : P.underlying K = some (.int q))
    (hb : w.heap[r]? = some (.map es clock)) (hl : MapL es clock l) (k : Int) (v : Value) :
    ∃ es' clock', (Instr.mapUpdate T (.map (some r)) (.int .i64 k) v).run P w = .ok () (setBlock w r (.map es' clock')) ∧ MapL es' clock' (upd l k v) := by
  simp only [Instr.mapUpdate, Sem.run_bind, run_underlying hT, Result.andThen_ok, MapKept.run_getObj_map hb, run_checkKey_int hK, run_findKey_int hK hl]
  cases hf : fidx l k 0 with
  | none =>
    refine ⟨es.push { key := .int .i64 k, val := v, born := clock }, clock + 1, by simp [MapKept.run_setObj_map _ hb, setBlock], ?_⟩
    refine ⟨?_, nodup_upd hl.nodup k v, ?_, ?_⟩
    · rw [fidx_none_upd hf]; simp [hl.ent]
    · simp only [Array.toList_push, List.map_append, List.map_cons, List.map_nil]
      rw [List.nodup_append]
      refine ⟨hl.born, by simp, ?_⟩
      intro a ha b hb
      simp at hb; subst hb
      obtain ⟨e, he, rfl⟩ := List.mem_map.1 ha
      have := hl.clock e he; omega
    · intro e he
      simp only [Array.toList_push, List.mem_append, List.mem_singleton] at he
      rcases he with he | rfl
      · have := hl.clock e he; omega
      · simp
  | some p =>
    obtain ⟨i, x⟩ := p
    have hi := fidx_ge _ _ _ _ _ hf
    have hlen := hl.size
    have hilt : i < es.size := by omega
    have hkey : (es[i]?).map (·.key) = some (.int .i64 k) := by
      have h1 : (es.toList.map (fun e => (e.key, e.val)))[i]? = (l.map fun p => (Value.int .i64 p.1, p.2))[i]? := by rw [hl.ent]
      have h2 : l[i]? = some (k, x) := by
        have key : ∀ (l : KV) (i j : Nat), fidx l k i = some (i + j, x) → l[j]? = some (k, x) := by
          intro l
          induction l with
          | nil => intro i j h; simp [fidx] at h
          | cons p t ih =>
            obtain ⟨a, y⟩ := p
            intro i j h
            unfold fidx at h
            by_cases hka : k = a
            · subst hka
              simp only [if_true, Option.some.injEq, Prod.mk.injEq] at h
              obtain rfl : j = 0 := by omega
              obtain rfl := h.2; rfl
            · simp only [hka, if_false] at h
              have hge := fidx_ge _ _ _ _ _ h
              obtain ⟨j', rfl⟩ : ∃ j', j = j' + 1 := ⟨j - 1, by omega⟩
              simpa using ih (i + 1) j' (by rw [h]; congr 2; omega)
        exact key l 0 i (by simpa using hf)
      simp only [List.getElem?_map, h2, Option.map_some, Array.getElem?_toList] at h1
      cases he : es[i]? with
      | none => simp [he] at h1
      | some e => simp [he] at h1; simp [h1.1]
    have hstay : ∀ w : World, (Instr.keyThatStays (.int .i64 k) (.int .i64 k)).run P w = .ok (.int .i64 k) w := by
      intro w; simp [Instr.keyThatStays, Instr.sameBits]
    refine ⟨es.modify i fun e => { e with key := .int .i64 k, val := v }, clock, ?_, ?_⟩
    · simp only [hkey, Option.getD_some, Sem.run_bind, hstay, Result.andThen_ok, MapKept.run_setObj_map _ hb]; rfl
    · refine ⟨?_, nodup_upd hl.nodup k v, ?_, ?_⟩
      · rw [Array.toList_modify]
        exact fidx_upd (i := 0) (j := i) (x := x) hl.ent (by simpa using hf) (fun e => ⟨rfl, rfl⟩)
      · rw [Array.toList_modify]
        have : ∀ (es : List MapEntry) i, (es.modify i fun e => { e with key := .int .i64 k, val := v }).map (·.born) = es.map (·.born) := by
          intro es
          induction es with
          | nil => intro i; simp
          | cons e r ih => intro i; cases i <;> simp [ih]
        rw [this]; exact hl.born
      · intro e he
        rw [Array.toList_modify] at he
        have : ∀ (es : List MapEntry) i, e ∈ (es.modify i fun e => { e with key := .int .i64 k, val := v }) → ∃ e' ∈ es, e'.born = e.born := by
          intro es
          induction es with
          | nil => intro i h; simp at h
          | cons e0 r ih =>
            intro i h
            cases i with
            | zero => simp at h; rcases h with rfl | h
                      · exact ⟨e0, by simp, rfl⟩
                      · exact ⟨e, by simp [h], rfl⟩
            | succ i =>
              simp at h
              rcases h with rfl | h
              · exact ⟨e, by simp, rfl⟩
              · obtain ⟨e', h1, h2⟩ := ih i h; exact ⟨e', by simp [h1], h2⟩
        obtain ⟨e', h1, h2⟩ := this _ _ he
        have := hl.clock e' h1; omega
theorem run_delete_kv {T K E : TypeId} {q : IntKind} (hT : P.underlying T = some (.map K E)) (hK : P.underlying K = some (.int q))
  (hb : w.heap[r]? = some (.map es clock)) (hl : MapL es clock l) (k : Int) :
  ∃ es' clock', (∀ ty, (Builtin.delete_ #[T, K] ty #[.map (some r), .int .i64 k]).run P w = .ok (.tuple #[]) (setBlock w r (.map es' clock'))) ∧ MapL es' clock' (del l k) := by
 cases hf : fidx l k 0 with
 | none =>
  refine ⟨es, clock, ?_, ?_⟩
  ·intro ty; simp [Builtin.delete_, run_underlying hT, MapKept.run_getObj_map hb, run_checkKey_int hK, run_findKey_int hK hl, hf, MapKept.run_setObj_map _ hb, setBlock]
  ·rw [fidx_none_del hf]; exact hl
 | some p =>
  obtain ⟨i, x⟩ := p
  have hi := fidx_ge _ _ _ _ _ hf
  have hlen := hl.size
  refine ⟨es.eraseIdxIfInBounds i, clock, ?_, ?_⟩
  ·intro ty; simp [Builtin.delete_, run_underlying hT, MapKept.run_getObj_map hb, run_checkKey_int hK, run_findKey_int hK hl, hf, MapKept.run_setObj_map _ hb, setBlock]
  ·have he : (es.eraseIdxIfInBounds i).toList = es.toList.eraseIdx i := by
    rw [Array.eraseIdxIfInBounds]; rw [dif_pos (by omega)]; simp
   refine ⟨?_, nodup_del hl.nodup k, ?_, ?_⟩
   ·rw [he]; exact fidx_del (i := 0) (j := i) (x := x) hl.ent (by simpa using hf)
   ·rw [he]
    exact ((List.eraseIdx_sublist es.toList i).map _).nodup hl.born
   ·intro e h; rw [he] at h; exact hl.clock e ((List.eraseIdx_sublist es.toList i).mem h)
end
section
variable {w : World} {r clock : Nat} {es : Array MapEntry}
theorem Sat.setBlock {F : HProp} {o o' : Obj} (h : Sat w (pts r o * F)) : Sat (setBlock w r o') (pts r o' * F) := h.putObj
theorem Same.setBlock {w0 : World} (h : Same w0 w) (o : Obj) : Same w0 (setBlock w r o) := h.putObj r o
end
end Go.Sl
namespace Go.Sl
open Go Go.RowKit Go.ChangeMaps
section
variable {P : Program} {w : World} {r m clock : Nat} {es : Array MapEntry} {l : KV} {seen : Array Nat}
end
end Go.Sl
end
section
namespace Go.Sl
open Go Go.RowKit
def zsec : List UInt8 := List.replicate 64 0
theorem zsec_length : zsec.length = 64 := by simp [zsec]
def fupd {α : Type} (f : Nat → α) (k : Nat) (v : α) : Nat → α := fun i => if i = k then v else f i
structure DiskM where
 n : Nat
 dur : Nat → List UInt8
 cache : Nat → Option (List UInt8)
 armed : Nat → Option Int
namespace DiskM
structure WF (D : DiskM) : Prop where
 dur : ∀ i, i < D.n → (D.dur i).length = 64
 cache : ∀ i s, D.cache i = some s → i < D.n ∧ s.length = 64
 armed : ∀ i j, D.armed i = some j → i < D.n ∧ (j = -1 ∨ 0 ≤ j ∧ j < (D.n : Int))
 small : D.n ≤ 65536
def new (n : Int) : DiskM := { n := (min (max n 0) 65536).toNat, dur := fun _ => zsec, cache := fun _ => none, armed := fun _ => none }
def put (D : DiskM) (i : Nat) (s : List UInt8) : DiskM :=
 match D.armed i with
 | none => { D with cache := fupd D.cache i (some s) }
 | some j => if j = -1 then { D with armed := fupd D.armed i none } else { D with armed := fupd D.armed i none, cache := fupd D.cache j.toNat (some s) }
def pending (D : DiskM) : List Nat := (List.range D.n).filter fun i => (D.cache i).isSome
theorem WF.new (n : Int) : (DiskM.new n).WF := ⟨fun i h => zsec_length, fun i s h => by simp [DiskM.new] at h, fun i j h => by simp [DiskM.new] at h, by simp only [DiskM.new]; omega⟩
theorem WF.put {D : DiskM} (h : D.WF) {i : Nat} {s : List UInt8} (hi : i < D.n) (hs : s.length = 64) : (D.put i s).WF := by
 unfold DiskM.put
 split
 ·refine ⟨h.dur, fun k t hk => ?_, h.armed, h.small⟩
  simp only [fupd] at hk
  split at hk
  ·cases hk; subst k; exact ⟨hi, hs⟩
  ·exact h.cache k t hk
 ·rename_i j hj
  have ha := h.armed i j hj
  split
  ·refine ⟨h.dur, h.cache, fun k t hk => ?_, h.small⟩
   simp only [fupd] at hk
   split at hk
   ·cases hk
   ·exact h.armed k t hk
  ·refine ⟨h.dur, fun k t hk => ?_, fun k t hk => ?_, h.small⟩
   ·simp only [fupd] at hk
    split at hk
    ·cases hk; subst k; exact ⟨by have := ha.2; show j.toNat < D.n; omega, hs⟩
    ·exact h.cache k t hk
   ·simp only [fupd] at hk
    split at hk
    ·cases hk
    ·exact h.armed k t hk
end DiskM
def byteV (b : UInt8) : Value := .int .u8 b.toNat
def secL (s : List UInt8) : List Value := s.map byteV
def secA (s : List UInt8) : Array Value := (secL s).toArray
abbrev secV (s : List UInt8) : Value := .agg (secA s)
def KvSec (l : KV) (m : Nat → Option (List UInt8)) : Prop := ∀ k : Int, lk l k = if 0 ≤ k then (m k.toNat).map secV else none
def KvInt (l : KV) (m : Nat → Option Int) : Prop := ∀ k : Int, lk l k = if 0 ≤ k then (m k.toNat).map (Value.int .i64) else none
theorem KvSec.upd {l : KV} {m : Nat → Option (List UInt8)} (h : KvSec l m) {k : Int} (hk : 0 ≤ k) (s : List UInt8) : KvSec (upd l k (secV s)) (fupd m k.toNat (some s)) := by
 intro x
 rw [lk_upd, h x]
 by_cases hx : x = k
 ·subst hx; simp [hk, fupd]
 ·rw [if_neg hx]
  by_cases h0 : 0 ≤ x
  ·rw [if_pos h0, if_pos h0]; simp only [fupd]; rw [if_neg (by omega)]
  ·rw [if_neg h0, if_neg h0]
theorem KvInt.upd {l : KV} {m : Nat → Option Int} (h : KvInt l m) {k : Int} (hk : 0 ≤ k) (s : Int) : KvInt (upd l k (.int .i64 s)) (fupd m k.toNat (some s)) := by
 intro x
 rw [lk_upd, h x]
 by_cases hx : x = k
 ·subst hx; simp [hk, fupd]
 ·rw [if_neg hx]
  by_cases h0 : 0 ≤ x
  ·rw [if_pos h0, if_pos h0]; simp only [fupd]; rw [if_neg (by omega)]
  ·rw [if_neg h0, if_neg h0]
theorem KvSec.del {l : KV} {m : Nat → Option (List UInt8)} (h : KvSec l m) (hn : (l.map (·.1)).Nodup) {k : Int} (hk : 0 ≤ k) : KvSec (del l k) (fupd m k.toNat none) := by
 intro x
 rw [lk_del hn, h x]
 by_cases hx : x = k
 ·subst hx; simp [fupd]
 ·rw [if_neg hx]
  by_cases h0 : 0 ≤ x
  ·rw [if_pos h0, if_pos h0]; simp only [fupd]; rw [if_neg (by omega)]
  ·rw [if_neg h0, if_neg h0]
theorem KvInt.del {l : KV} {m : Nat → Option Int} (h : KvInt l m) (hn : (l.map (·.1)).Nodup) {k : Int} (hk : 0 ≤ k) : KvInt (del l k) (fupd m k.toNat none) := by
 intro x
 rw [lk_del hn, h x]
 by_cases hx : x = k
 ·subst hx; simp [fupd]
 ·rw [if_neg hx]
  by_cases h0 : 0 ≤ x
  ·rw [if_pos h0, if_pos h0]; simp only [fupd]; rw [if_neg (by omega)]
  ·rw [if_neg h0, if_neg h0]
theorem KvSec.nil : KvSec [] fun _ => none := by intro k; simp [lk]
theorem KvInt.nil : KvInt [] fun _ => none := by intro k; simp [lk]
def putL : Array Value → Nat → List Value → Array Value
 | c, _, [] => c
 | c, o, v :: r => putL (c.setIfInBounds o v) (o + 1) r
theorem putL_at : ∀ (vs : List Value) (c : Array Value) (o j : Nat), o + vs.length ≤ c.size → (putL c o vs)[j]? = if o ≤ j ∧ j < o + vs.length then vs[j - o]? else c[j]?
 | [], c, o, j, _ => by rw [putL, if_neg (by simp only [List.length_nil]; omega)]
 | v :: r, c, o, j, h => by
  simp only [List.length_cons] at h ⊢
  rw [putL, putL_at r _ _ _ (by simp; omega)]
  by_cases h1 : o + 1 ≤ j ∧ j < o + 1 + r.length
  ·rw [if_pos h1, if_pos (by omega), show j - o = (j - (o + 1)) + 1 by omega, List.getElem?_cons_succ]
  ·rw [if_neg h1, Array.getElem?_setIfInBounds]
   by_cases h2 : o = j
   ·subst h2; rw [if_pos rfl, if_pos (by omega), if_pos (by omega)]; simp
   ·rw [if_neg h2, if_neg (by omega)]
theorem Sat.setCells {b : Nat} {T : TypeId} {fr : Nat × Nat} {F : HProp} : ∀ (vs : List Value) {w : World} {c : Array Value} {o : Nat}, Sat w (pts b (.cells c T fr) * F) → Sat (w.setCells b o vs) (pts b (.cells (putL c o vs) T fr) * F)
 | [], _, _, _, h => h
 | _ :: r, _, _, _, h => Sat.setCells r (h.setCell _)
theorem Same.setCells {b : Nat} {w0 : World} : ∀ (vs : List Value) {w : World} {o : Nat}, Same w0 w → Same w0 (w.setCells b o vs)
 | [], _, _, h => h
 | _ :: r, _, _, h => Same.setCells r (h.setCell _ _)
section
variable {w : World} {F : HProp} {TD TS : TypeId}
end
end Go.Sl
end
section
namespace Go.Sl
open Go Go.RowKit
section
variable {P : Program} {tmps : Array Value} {w : World}
inductive ResIs (P : Program) (tmps : Array Value) (w : World) : ResultVar → Value → Prop
 | tmp {t : Tmp} {v : Value} (h : tmps.getD t undef = v) : ResIs P tmps w (.tmp t) v
 | cell {p : Tmp} {ty : TypeId} {ad : Addr} {v : Value} (h : tmps.getD p undef = .pointer (some ad)) (hl : (loadVar ty ad).run P w = .ok v w) : ResIs P tmps w (.cell p ty) v
theorem ResIs.row {p : Tmp} {ty T : TypeId} {g : Nat} {cs : Array Value} {fr : Nat × Nat} {d : TypeDesc} (h : tmps.getD p undef = .pointer (some ⟨g, 0, none⟩)) (hg : w.heap[g]? = some (.cells cs T fr))
  (hu : P.underlying ty = some d) (hd : (match d with | .struct _ | .array _ _ => true | _ => false) = true) (hi : (P.info? ty).map (·.size) = some cs.size) : ResIs P tmps w (.cell p ty) (.agg cs) :=
 .cell h (run_loadVar_row w g T ty cs fr d hg hu hd hi)
theorem results2 {fn : Func} {r1 r2 : ResultVar} {v1 v2 : Value} (h : fn.results = #[r1, r2]) (h1 : ResIs P tmps w r1 v1) (h2 : ResIs P tmps w r2 v2) : (results fn tmps).run P w = .ok (.tuple #[v1, v2]) w := by
 cases h1 <;> cases h2 <;> simp_all [results, asAddr]
end
section
variable {P : Program} {ops : Array Oper} {rest : List Oper} {o : Oper} {a : Act} {w : World} {Q : Exit → Act → World → Prop}
theorem putL_all {c : Array Value} {vs : List Value} (h : vs.length = c.size) : putL c 0 vs = vs.toArray := by
 apply Array.ext_getElem?
 intro j
 rw [putL_at vs c 0 j (by omega)]
 by_cases hj : j < vs.length
 ·rw [if_pos (by omega)]; simp
 ·rw [if_neg (by omega), Array.getElem?_eq_none (by omega)]; simp; omega
theorem exec_store_blk {ty T : TypeId} {x y : Operand} {b : Nat} {old new : Array Value} {X : HProp} (ho : o.op = .store ty x y) (hx : a.eval x = .pointer (some ⟨b, 0, none⟩)) (hy : a.eval y = .agg new) (hS : Sat w (pts b (.cells old T (0, 0)) * X))
  (hi : (P.info? ty).map (·.size) = some new.size) (hs : new.size = old.size) (h1 : ∀ v ∈ new.toList, v.oneCell' = true) :
  ∃ w', (execOp a.eval o).run P w = .ok .skip w' ∧ Same w w' ∧ Sat w' (pts b (.cells new T (0, 0)) * X) := by
 refine ⟨w.setCells b 0 new.toList, exec_store ho hx hy (run_storeAt_mid w b 0 ty new ?_ hi (Array.all_eq_true_iff_forall_mem.2 (fun v hv => h1 v (by simpa using hv)))), Same.setCells _ (Same.refl w), ?_⟩
 ·intro j hj
  rw [Nat.zero_add]
  refine ⟨?_, thawed_at hS.block j⟩
  rw [cells_at hS.block j]; simp; omega
 ·have h := hS.setCells new.toList (o := 0)
  rw [putL_all (by rw [Array.length_toList]; exact hs)] at h
  exact h
theorem wpList_do (hg : o.guard = none) {w' : World} (h : (execOp a.eval o).run P w = .ok .skip w') (k : wpList P ops Q rest (a.put o.dst undef) w') : wpList P ops Q (o :: rest) a w :=
 wpList_step fun K hK => by
  simp only [Region.wanted, hg, if_true]
  unfold Oper.wp
  rw [h]
  exact hK _ _ k
theorem wpList_store_blk (hg : o.guard = none) {ty T : TypeId} {x y : Operand} {b : Nat} {old new : Array Value} {X : HProp} (ho : o.op = .store ty x y) (hx : a.eval x = .pointer (some ⟨b, 0, none⟩)) (hy : a.eval y = .agg new) (hS : Sat w (pts b (.cells old T (0, 0)) * X))
  (hi : (P.info? ty).map (·.size) = some new.size) (hs : new.size = old.size) (h1 : ∀ v ∈ new.toList, v.oneCell' = true)
  (k : ∀ w', Hid (Same w w' ∧ Sat w' (pts b (.cells new T (0, 0)) * X)) → wpList P ops Q rest (a.put o.dst undef) w') : wpList P ops Q (o :: rest) a w := by
 obtain ⟨w', hr, h2, h3⟩ := exec_store_blk (P := P) ho hx hy hS hi hs h1
 exact wpList_do hg hr (k w' ⟨h2, h3⟩)
end
section
variable {P : Program} {ops : Array Oper} {Q : Exit → Act → World → Prop} {S : World → Prop} {fuel : Nat} {listed : Array Bool} {t : Array Value} {df : List Deferred} {w : World}
theorem reg_store_blk (i : Nat) {o : Oper} {ty T : TypeId} {x y : Operand} {b : Nat} {old new : Array Value} {X : HProp} (ho : ops[i]? = some o) (hd : o.dst = none) (hck : aloneOK ops listed i = true) (hw : Region.wanted o (yielded ops t) = true)
  (hop : o.op = .store ty x y) (hx : Act.eval ⟨t, df⟩ x = .pointer (some ⟨b, 0, none⟩)) (hy : Act.eval ⟨t, df⟩ y = .agg new) (hS : Sat w (pts b (.cells old T (0, 0)) * X))
  (hi : (P.info? ty).map (·.size) = some new.size) (hs : new.size = old.size) (h1 : ∀ v ∈ new.toList, v.oneCell' = true)
  (k : ∀ w', Hid (Same w w' ∧ Sat w' (pts b (.cells new T (0, 0)) * X)) → S w' ∧ Reg P ops Q S fuel (listed.setIfInBounds i true) t df w') : Reg P ops Q S (fuel + 1) listed t df w := by
 obtain ⟨w', hr, h2, h3⟩ := exec_store_blk (P := P) hop hx hy hS hi hs h1
 obtain ⟨h4, h5⟩ := k w' ⟨h2, h3⟩
 exact reg_do i w' ho hd hck hw hr h4 h5
end
end Go.Sl
end
