/- Laws at the operation, for the walk: a new variable of an array's type; a store into, and a load from, the block that was made last; a value whose run is known. It speaks of no program. -/
import Derived.Test.YtbegomjbakidmaaSl
import Derived.Deep.MidRow
namespace Go.Sl
open Go Go.RowKit

/-- A slice of ints that reads as a list. -/
def IntsAt (w : World) (v : Value) (l : List Int) : Prop := ∃ ao cap, v = .slice ao l.length cap ∧ (l ≠ [] → ∃ b off, ao = some ⟨b, off, none⟩ ∧ ∀ j x, l[j]? = some x → w.cell? ⟨b, off + j * 1, none⟩ = some (.int .i64 x))
theorem IntsAt.nil (w : World) : IntsAt w (.slice none 0 0) [] := ⟨none, 0, rfl, fun h => absurd rfl h⟩

section
variable {P : Program} {ops : Array Oper} {rest : List Oper} {o : Oper} {a : Act} {w : World} {Q : Exit → Act → World → Prop}

/-! the runs of operations -/
theorem exec_load {ty : TypeId} {x : Operand} {p v : Value} {w' : World} (ho : o.op = .load ty x) (hx : a.eval x = p) (h : (Instr.loadAt ty p).run P w = .ok v w') : (execOp a.eval o).run P w = .ok (.value v) w' := by
  unfold execOp; simp [ho, hx, h]
theorem exec_store {ty : TypeId} {x y : Operand} {p v : Value} {w' : World} (ho : o.op = .store ty x y) (hx : a.eval x = p) (hy : a.eval y = v) (h : (Instr.storeAt ty p v).run P w = .ok () w') : (execOp a.eval o).run P w = .ok .skip w' := by
  unfold execOp; simp [ho, hx, hy, h]
theorem exec_mapUpdate {T : TypeId} {m k x : Operand} {vm vk vx : Value} {w' : World} (ho : o.op = .mapUpdate T m k x) (hm : a.eval m = vm) (hk : a.eval k = vk) (hx : a.eval x = vx) (h : (Instr.mapUpdate T vm vk vx).run P w = .ok () w') :
    (execOp a.eval o).run P w = .ok .skip w' := by
  unfold execOp; simp [ho, hm, hk, hx, h]
theorem exec_convert {s d : TypeId} {x : Operand} {p v : Value} {w' : World} (ho : o.op = .convert s d x) (hx : a.eval x = p) (h : (convert s d p).run P w = .ok v w') : (execOp a.eval o).run P w = .ok (.value v) w' := by
  unfold execOp; simp [ho, hx, h]
theorem exec_lookup {T : TypeId} {m k : Operand} {b : Bool} {vm vk v : Value} {w' : World} (ho : o.op = .lookup T m k b) (hm : a.eval m = vm) (hk : a.eval k = vk) (h : (Instr.lookup T vm vk b).run P w = .ok v w') :
    (execOp a.eval o).run P w = .ok (.value v) w' := by
  unfold execOp; simp [ho, hm, hk, h]
theorem exec_arrayAt {T e : TypeId} {n : Nat} {x : Operand} {b : Option Addr} {l c : Nat} (ho : o.op = .sliceToArrayPointer T x) (hx : a.eval x = .slice b l c) (hT : P.underlying T = some (.array n e)) (hn : n ≤ l) :
    (execOp a.eval o).run P w = .ok (.value (.pointer b)) w := by
  unfold execOp; simp [ho, hx, Instr.arrayAt, run_underlying hT, show ¬ l < n by omega]
theorem exec_range {T : TypeId} {x : Operand} {p v : Value} {w' : World} (ho : o.op = .range T x) (hx : a.eval x = p) (h : (Instr.range T p).run P w = .ok v w') : (execOp a.eval o).run P w = .ok (.value v) w' := by
  unfold execOp; simp [ho, hx, h]
theorem exec_next {b : Bool} {x : Operand} {p v : Value} {w' : World} (ho : o.op = .next x b) (hx : a.eval x = p) (h : ∀ T, (Instr.next p b T).run P w = .ok v w') : (execOp a.eval o).run P w = .ok (.value v) w' := by
  unfold execOp; simp [ho, hx, h]
theorem exec_entry {x : Operand} {p v : Value} {w' : World} (ho : o.op = .entry x) (hx : a.eval x = p) (h : (Instr.entry p).run P w = .ok v w') : (execOp a.eval o).run P w = .ok (.value v) w' := by
  unfold execOp; simp [ho, hx, h]
theorem exec_builtin2 {b : Builtin} {x y : Operand} {ts : Array TypeId} {vx vy v : Value} {w' : World} (ho : o.op = .call { callee := .builtin b, args := #[x, y], argTypes := ts }) (hx : a.eval x = vx) (hy : a.eval y = vy)
    (h : ∀ cs, (builtin b ts o.type cs #[vx, vy]).run P w = .ok (.value v) w') : (execOp a.eval o).run P w = .ok (.value v) w' := by
  unfold execOp; simp [ho, resolve, invoke, hx, hy, h]

theorem exec_index_array {T e : TypeId} {n sz b off i : Nat} {q : IntKind} {x y : Operand} {ti : TypeInfo} (ho : o.op = .indexAddr T x y) (hx : a.eval x = .pointer (some ⟨b, off, none⟩)) (hy : a.eval y = .int q (i : Int))
    (hT : P.underlying T = some (.array n e)) (he : P.info? e = some ti) (hs : ti.size = sz) (hi : i < n) : (execOp a.eval o).run P w = .ok (.value (.pointer (some ⟨b, off + i * sz, none⟩))) w := by
  unfold execOp
  have h1 : (0 : Int) ≤ (i : Int) ∧ (i : Int) < (n : Int) := by omega
  simp [ho, hx, hy, Instr.indexAt, asIntOf, run_underlying hT, Instr.sureAddr, h1.1, hi, sizeOf, typeInfo, he, hs, Addr.add_mid]
theorem exec_index_slice {T e : TypeId} {n c sz b off i : Nat} {q : IntKind} {x y : Operand} {ti : TypeInfo} (ho : o.op = .indexAddr T x y) (hx : a.eval x = .slice (some ⟨b, off, none⟩) n c) (hy : a.eval y = .int q (i : Int))
    (hT : P.underlying T = some (.slice e)) (he : P.info? e = some ti) (hs : ti.size = sz) (hi : i < n) : (execOp a.eval o).run P w = .ok (.value (.pointer (some ⟨b, off + i * sz, none⟩))) w := by
  unfold execOp
  have h1 : (0 : Int) ≤ (i : Int) ∧ (i : Int) < (n : Int) := by omega
  simp [ho, hx, hy, Instr.indexAt, asIntOf, run_underlying hT, h1.1, hi, sizeOf, typeInfo, he, hs, Addr.add_mid]
theorem exec_binop {op : BinOp} {t t2 : TypeId} {x y : Operand} {vx vy v : Value} (ho : o.op = .binOp op t x y t2) (hx : a.eval x = vx) (hy : a.eval y = vy) (hg : eqGuard op t x y vx vy = pure ())
    (h : (binOp op t vx vy).run P w = .ok v w) : (execOp a.eval o).run P w = .ok (.value v) w := by
  unfold execOp
  simp [ho, hx, hy, hg, h]
theorem exec_load_cell {ty : TypeId} {x : Operand} {ad : Addr} {v : Value} {d : TypeDesc} (ho : o.op = .load ty x) (hx : a.eval x = .pointer (some ad)) (hT : P.underlying ty = some d) (hd : d.isRow = false)
    (hc : w.cell? ad = some v) : (execOp a.eval o).run P w = .ok (.value v) w := by
  refine exec_load ho hx ?_
  have hagg : (isAgg ty).run P w = .ok false w := by
    unfold isAgg
    rw [Sem.run_bind, run_underlying hT w]
    cases d <;> simp_all [TypeDesc.isRow]
  simp [Instr.loadAt, Instr.sureAddr, loadVar, hagg, hc]
theorem exec_store_cell {ty : TypeId} {x y : Operand} {ad : Addr} {v u : Value} {ti : TypeInfo} (ho : o.op = .store ty x y) (hx : a.eval x = .pointer (some ad)) (hy : a.eval y = v) (hT : P.info? ty = some ti) (hs : ti.size = 1) (hv : v.oneCell' = true)
    (hc : w.cell? ad = some u) (hf : w.frozen? ad = false) : (execOp a.eval o).run P w = .ok .skip (w.setCell ad v) := by
  refine exec_store ho hx hy ?_
  have hcs : v.cells = #[v] := by cases v <;> first | rfl | simp [Value.oneCell'] at hv
  simp only [Instr.storeAt, Instr.sureAddr, storeVar, sizeOf, typeInfo, Sem.run_bind, run_program, hT, Sem.run_pure, Result.andThen_ok, hs, hcs]
  simp [storeCells, Addr.add, run_store P w ad v .plain hv, hc, hf]
theorem run_shl_u8 (t : TypeId) (r : Nat) (hr : r < 8) (w : World) : (binOp .shl t (.int .u8 1) (.int .i64 (r : Int))).run P w = .ok (.int .u8 ((1 <<< UInt8.ofNat r : UInt8).toNat : Int)) w := by
  match r, hr with
  | 0, _ => rfl
  | 1, _ => rfl
  | 2, _ => rfl
  | 3, _ => rfl
  | 4, _ => rfl
  | 5, _ => rfl
  | 6, _ => rfl
  | 7, _ => rfl
theorem run_xor_u8 (t : TypeId) (x y : UInt8) (w : World) : (binOp .xor t (.int .u8 (x.toNat : Int)) (.int .u8 (y.toNat : Int))).run P w = .ok (.int .u8 ((x ^^^ y).toNat : Int)) w := by
  have h := u8_xor_nat x.toNat y.toNat x.toNat_lt y.toNat_lt
  have e : (binOp .xor t (.int .u8 (x.toNat : Int)) (.int .u8 (y.toNat : Int))).run P w = .ok (.int .u8 (bits .xor .u8 (x.toNat : Int) (y.toNat : Int))) w := rfl
  rw [e, h]
  simp

theorem wrap_nat (q : Nat) (h : q ≤ 4611686018427387904) : IntKind.i64.wrap (q : Int) = (q : Int) := IntWalk.i64_in _ (by omega)
theorem run_quo_nat (t : TypeId) (x y : Nat) (hx : x ≤ 4611686018427387904) (hy : 0 < y) (w : World) : (binOp .quo t (.int .i64 (x : Int)) (.int .i64 (y : Int))).run P w = .ok (.int .i64 ((x / y : Nat) : Int)) w := by
  have hy0 : ¬ ((y : Int) = 0) := by omega
  have hle : x / y ≤ x := Nat.div_le_self x y
  have e : (x : Int).tdiv (y : Int) = ((x / y : Nat) : Int) := by rw [Int.natCast_ediv]; exact Int.tdiv_eq_ediv_of_nonneg (by omega)
  have hw := wrap_nat (x / y) (Nat.le_trans hle hx)
  have h0 : binOp .quo t (.int .i64 (x : Int)) (.int .i64 (y : Int)) = Op.intDiv .quo .i64 (x : Int) (y : Int) := rfl
  rw [h0]
  unfold Op.intDiv
  rw [if_neg hy0, e]
  show Result.ok (Value.int .i64 (IntKind.i64.wrap ((x / y : Nat) : Int))) w = _
  rw [hw]
theorem run_rem_nat (t : TypeId) (x y : Nat) (hy : 0 < y) (w : World) : (binOp .rem t (.int .i64 (x : Int)) (.int .i64 (y : Int))).run P w = .ok (.int .i64 ((x % y : Nat) : Int)) w := by
  have hy0 : ¬ ((y : Int) = 0) := by omega
  have e : (x : Int).tmod (y : Int) = ((x % y : Nat) : Int) := by rw [Int.natCast_emod]; exact Int.tmod_eq_emod_of_nonneg (by omega)
  have h0 : binOp .rem t (.int .i64 (x : Int)) (.int .i64 (y : Int)) = Op.intDiv .rem .i64 (x : Int) (y : Int) := rfl
  rw [h0]
  unfold Op.intDiv
  rw [if_neg hy0, e]
  rfl

/-- 'a[:]', a an array's place. -/
theorem exec_slice_all {T e : TypeId} {n : Nat} {x : Operand} {ad : Addr} (ho : o.op = .slice T x none none none) (hx : a.eval x = .pointer (some ad)) (hT : P.underlying T = some (.array n e)) (he : (P.info? e).map (·.size) = some 1) :
    (execOp a.eval o).run P w = .ok (.value (.slice (some ad) n n)) w := by
  obtain ⟨ti, hti, hts⟩ := Option.map_eq_some_iff.1 he
  unfold execOp
  simp [ho, hx, Instr.sliceAt, run_underlying hT, Instr.sureAddr, Instr.sliceBounds, sizeOf, typeInfo, hti, Addr.add]
/-- 'a[:c]', a an array's place. -/
theorem exec_slice_to {T e : TypeId} {n c : Nat} {x y : Operand} {ad : Addr} (ho : o.op = .slice T x none (some y) none) (hx : a.eval x = .pointer (some ad)) (hy : a.eval y = .int .i64 (c : Int)) (hT : P.underlying T = some (.array n e)) (he : (P.info? e).map (·.size) = some 1) (hc : c ≤ n) :
    (execOp a.eval o).run P w = .ok (.value (.slice (some ad) c n)) w := by
  obtain ⟨ti, hti, hts⟩ := Option.map_eq_some_iff.1 he
  unfold execOp
  simp [ho, hx, hy, Instr.sliceAt, run_underlying hT, Instr.sureAddr, Instr.sliceBounds, Instr.sliceBound, asIntOf, sizeOf, typeInfo, hti, Addr.add, hc]
theorem exec_max {ts : Array TypeId} {x y : Operand} {m n : Int} (ho : o.op = .call { callee := .builtin .max, args := #[x, y], argTypes := ts }) (hx : a.eval x = .int .i64 m) (hy : a.eval y = .int .i64 n) :
    (execOp a.eval o).run P w = .ok (.value (.int .i64 (max m n))) w := by
  unfold execOp
  simp [ho, resolve, invoke, hx, hy, builtin, Builtin.max_, Builtin.max2]
  split <;> omega
theorem exec_min {ts : Array TypeId} {x y : Operand} {m n : Int} (ho : o.op = .call { callee := .builtin .min, args := #[x, y], argTypes := ts }) (hx : a.eval x = .int .i64 m) (hy : a.eval y = .int .i64 n) :
    (execOp a.eval o).run P w = .ok (.value (.int .i64 (min m n))) w := by
  unfold execOp
  simp [ho, resolve, invoke, hx, hy, builtin, Builtin.min_, Builtin.min2]
  split <;> omega
/-- 'copy(dst, src)', both known places, what is copied known. -/
theorem exec_copy {x y : Operand} {T e : TypeId} {ad : Addr} {b off dl dc sl sc : Nat} {vs : List Value} (ho : o.op = .call { callee := .builtin .copy, args := #[x, y], argTypes := #[T, T] }) (hx : a.eval x = .slice (some ⟨b, off, none⟩) dl dc) (hy : a.eval y = .slice (some ad) sl sc)
    (hT : P.underlying T = some (.slice e)) (he : (P.info? e).map (·.size) = some 1) (hle : sl ≤ dl) (hl : vs.length = sl) (hs : ∀ j v, vs[j]? = some v → w.cell? (ad.add j) = some v) (ht : w.there b off sl) (h1 : ∀ v ∈ vs, v.oneCell' = true) :
    (execOp a.eval o).run P w = .ok (.value (.int .i64 (sl : Int))) (w.setCells b off vs) := by
  obtain ⟨ti, hti, hts⟩ := Option.map_eq_some_iff.1 he
  have hld := run_loadCells_list (P := P) w ad vs hs
  have hst := run_storeCells_cells (P := P) b off vs 0 w (fun j hj => by simpa using (ht j (by omega)).1) (fun j hj => by simpa using (ht j (by omega)).2) h1
  rw [hl] at hld
  simp only [Nat.add_zero] at hst
  have hmin : Nat.min sl dl = sl := Nat.min_eq_left hle
  unfold execOp
  simp only [ho]
  simp [resolve, invoke, hx, hy, builtin, Builtin.copy_, run_underlying hT, Builtin.lenOf, hmin, sizeOf, typeInfo, hti, hts, Builtin.firstCells, hld, hst, goInt]

/-- Any operation whose run is known. -/
theorem wpList_run (hg : o.guard = none) {v : Value} {w' : World} (h : (execOp a.eval o).run P w = .ok (.value v) w') (k : wpList P ops Q rest (a.put o.dst v) w') : wpList P ops Q (o :: rest) a w := by
  refine wpList_plain hg fun K hK => ?_
  unfold Oper.wp; rw [h]; exact hK _ _ k

/-- 'var x T', T an array or a struct whose zero value is known. -/
theorem wpList_alloc_zero (hg : o.guard = none) (e : TypeId) (ho : o.op = .alloc e) (z : Array Value) (hz : (zeroValue e).run P w = .ok (.agg z) w)
    (k : wpList P ops Q rest (a.put o.dst (.pointer (some ⟨w.heap.size, 0, none⟩))) (w.alloc (.cells z e))) : wpList P ops Q (o :: rest) a w := by
  refine wpList_run hg (v := .pointer (some ⟨w.heap.size, 0, none⟩)) (w' := w.alloc (.cells z e)) ?_ k
  unfold execOp
  simp [ho, Instr.alloc, hz, newVar, newRow, Value.cells]

theorem wpList_range_run (hg : o.guard = none) {T : TypeId} {x : Operand} {p v : Value} {w' : World} (h : (Instr.range T p).run P w = .ok v w') (ho : o.op = .range T x) (hx : a.eval x = p)
    (k : wpList P ops Q rest (a.put o.dst v) w') : wpList P ops Q (o :: rest) a w := wpList_run hg (exec_range ho hx h) k
theorem wpList_next_run (hg : o.guard = none) {b : Bool} {x : Operand} {p v : Value} {w' : World} (h : ∀ T, (Instr.next p b T).run P w = .ok v w') (ho : o.op = .next x b) (hx : a.eval x = p)
    (k : wpList P ops Q rest (a.put o.dst v) w') : wpList P ops Q (o :: rest) a w := wpList_run hg (exec_next ho hx h) k
theorem wpList_entry_run (hg : o.guard = none) {x : Operand} {p v : Value} {w' : World} (h : (Instr.entry p).run P w = .ok v w') (ho : o.op = .entry x) (hx : a.eval x = p)
    (k : wpList P ops Q rest (a.put o.dst v) w') : wpList P ops Q (o :: rest) a w := wpList_run hg (exec_entry ho hx h) k
theorem wpList_lookup_run (hg : o.guard = none) {T : TypeId} {m k : Operand} {b : Bool} {vm vk v : Value} {w' : World} (h : (Instr.lookup T vm vk b).run P w = .ok v w') (ho : o.op = .lookup T m k b) (hm : a.eval m = vm) (hk : a.eval k = vk)
    (c : wpList P ops Q rest (a.put o.dst v) w') : wpList P ops Q (o :: rest) a w := wpList_run hg (exec_lookup ho hm hk h) c
/-- 'delete(m, k)', its run known. -/
theorem wpList_delete_run (hg : o.guard = none) (m k : Operand) (T K : TypeId) (ho : o.op = Op.call { callee := Callee.builtin Builtin.delete, args := #[m, k], argTypes := #[T, K] }) {vm vk : Value} {w' : World}
    (hrun : ∀ ty, (Builtin.delete_ #[T, K] ty #[vm, vk]).run P w = .ok (.tuple #[]) w') (hm : a.eval m = vm) (hk : a.eval k = vk)
    (h : wpList P ops Q rest (a.put o.dst (.tuple #[])) w') : wpList P ops Q (o :: rest) a w := by
  refine wpList_run hg (v := .tuple #[]) (w' := w') ?_ h
  unfold execOp
  simp [ho, resolve, invoke, builtin, hm, hk, hrun]
/-- 'clear(m)', its run known. -/
theorem wpList_clear_run (hg : o.guard = none) (m : Operand) (T : TypeId) (ho : o.op = Op.call { callee := Callee.builtin Builtin.clear, args := #[m], argTypes := #[T] }) {vm : Value} {w' : World}
    (hrun : ∀ ty, (Builtin.clear_ #[T] ty #[vm]).run P w = .ok (.tuple #[]) w') (hm : a.eval m = vm)
    (h : wpList P ops Q rest (a.put o.dst (.tuple #[])) w') : wpList P ops Q (o :: rest) a w := by
  refine wpList_run hg (v := .tuple #[]) (w' := w') ?_ h
  unfold execOp
  simp [ho, resolve, invoke, builtin, hm, hrun]

theorem setCells_alloc (w : World) (T : TypeId) : ∀ (vs : List Value) (i : Nat) (c : Array Value), i + vs.length ≤ c.size →
    (w.alloc (.cells c T)).setCells w.heap.size i vs = w.alloc (.cells (c.toList.take i ++ vs ++ c.toList.drop (i + vs.length)).toArray T)
  | [], i, c, h => by simp [World.setCells]
  | v :: r, i, c, h => by
    simp only [List.length_cons] at h
    have h1 : (w.alloc (.cells c T)).setCell ⟨w.heap.size, i, none⟩ v = w.alloc (.cells (c.setIfInBounds i v) T) := by
      simp only [World.setCell, World.alloc]
      congr 1
      apply Array.ext
      · simp
      · intro j h1 h2
        simp only [Array.getElem_modify, Array.getElem_push]
        by_cases hj : w.heap.size = j
        · subst hj; simp
        · have : j < w.heap.size := by simp at h1; omega
          simp [hj, this]
    rw [World.setCells, h1, setCells_alloc w T r (i + 1) (c.setIfInBounds i v) (by simp; omega)]
    congr 2
    apply Array.ext'
    simp only [Array.toList_setIfInBounds, List.length_cons]
    rw [List.take_set, List.drop_set_of_lt (by omega)]
    rw [show i + 1 + r.length = i + (r.length + 1) by omega]
    rw [show (List.take (i + 1) c.toList).set i v = List.take i c.toList ++ [v] from ?_]
    · simp
    · apply List.ext_getElem
      · simp; omega
      · intro j h1 h2
        simp only [List.getElem_set, List.getElem_take, List.getElem_append]
        by_cases hj : i = j
        · subst hj; simp; intro h3; omega
        · have : j < i := by simp at h1; omega
          simp [hj]
          intro h3; omega

/-- A whole value stored into the block that was made last. -/
theorem wpList_store_fresh (hg : o.guard = none) (ty : TypeId) (x y : Operand) (ho : o.op = .store ty x y) (T : TypeId) (old new : Array Value)
    (hx : a.eval x = .pointer (some ⟨w.heap.size, 0, none⟩)) (hy : a.eval y = .agg new) (hi : (P.info? ty).map (·.size) = some new.size) (hs : new.size = old.size) (h1 : ∀ v ∈ new.toList, v.oneCell' = true)
    (k : wpList P ops Q rest (a.put o.dst undef) (w.alloc (.cells new T))) : wpList P ops Q (o :: rest) a (w.alloc (.cells old T)) := by
  refine wpList_store_mid hg ty x y ho w.heap.size 0 new hx hy ?_ hi (Array.all_eq_true_iff_forall_mem.2 (fun v hv => h1 v (by simpa using hv))) ?_
  · intro j hj
    have hb : (w.alloc (.cells old T)).heap[w.heap.size]? = some (.cells old T (0, 0)) := heap_alloc_new w _
    simp only [Nat.zero_add]
    refine ⟨?_, thawed_at hb j⟩
    rw [cells_at hb j]; simp; omega
  · rw [setCells_alloc w T new.toList 0 old (by simp; omega)]
    have : (old.toList.take 0 ++ new.toList ++ old.toList.drop (0 + new.toList.length)).toArray = new := by
      simp only [List.take_zero, List.nil_append, Nat.zero_add, Array.length_toList, hs]
      rw [List.drop_of_length_le (by simp)]; simp
    rw [this]; exact k

/-- The whole of the block that was made last. -/
theorem wpList_load_fresh (hg : o.guard = none) (ty : TypeId) (x : Operand) (ho : o.op = .load ty x) (T : TypeId) (c : Array Value) (fr : Nat × Nat)
    (hx : a.eval x = .pointer (some ⟨w.heap.size, 0, none⟩)) (d : TypeDesc) (hu : P.underlying ty = some d) (hd : d.isRow = true) (hi : (P.info? ty).map (·.size) = some c.size)
    (k : wpList P ops Q rest (a.put o.dst (.agg c)) (w.alloc (.cells c T fr))) : wpList P ops Q (o :: rest) a (w.alloc (.cells c T fr)) := by
  refine wpList_load_row hg ty x ho w.heap.size hx T c fr d (heap_alloc_new w _) hu ?_ hi k
  cases d <;> simp_all [TypeDesc.isRow]
end
end Go.Sl
