import Derived.Test.YteikbikopgabjaaGreatDoorH01
import Derived.Laws.CopyRow
import Derived.Test.YteikbikopgabjaaGreatDoorH13
import Derived.Lib.SliceRun
import Derived.Lib.AppendZerosOnto
import Derived.Lib.Overlaps
import Derived.Laws.Externs
import Derived.Test.YteikbikopgabjaaGreatDoorH02
import Derived.Test.YteikbikopgabjaaGreatDoorH11
/- Part 14 of a proof; the last part says what is proved. -/
section
namespace Go.Sl
open Go Go.RowKit
section
variable {P : Program} {w : World}
variable {ops : Array Oper} {rest : List Oper} {o : Oper} {a : Act} {Q : Exit → Act → World → Prop}
theorem exec_sl_run {T : TypeId} {x : Operand} {lo hi : Option Operand} {p v' : Value} (ho : o.op = .slice T x lo hi none) (hx : a.eval x = p) (h : (Instr.sliceAt T p (lo.map a.eval) (hi.map a.eval) none).run P w = .ok v' w) : (execOp a.eval o).run P w = .ok (.value v') w := by
 unfold execOp
 simp [ho, hx, h]
theorem wpList_sl (hg : o.guard = none) (T : TypeId) (x : Operand) (lo hi : Option Operand) (ho : o.op = .slice T x lo hi none) {p v' : Value} {vlo vhi : Option Value} (hx : a.eval x = p) (hlo : lo.map a.eval = vlo) (hhi : hi.map a.eval = vhi)
  (h : (Instr.sliceAt T p vlo vhi none).run P w = .ok v' w) (k : wpList P ops Q rest (a.put o.dst v') w) : wpList P ops Q (o :: rest) a w := by
 subst hlo hhi
 exact wpList_run hg (exec_sl_run ho hx h) k
section
variable {T e : TypeId} {k : Nat} (hu : P.underlying T = some (.slice e)) (he : (P.info? e).map (·.size) = some k) (b off n cap : Nat)
include hu he
theorem run_sl_lo (lo : Nat) (h : lo ≤ n) (w : World) : (Instr.sliceAt T (.slice (some ⟨b, off, none⟩) n cap) (some (.int .i64 (lo : Int))) none none).run P w = .ok (.slice (some (if cap = lo then ⟨b, off, none⟩ else ⟨b, off + lo * k, none⟩)) (n - lo) (cap - lo)) w := by
 obtain ⟨ti, hti, hts⟩ := Option.map_eq_some_iff.1 he
 by_cases hc : cap = lo
 ·simp [Instr.sliceAt, Instr.slice, run_underlying hu, Instr.sliceBounds, Instr.sliceBound, asIntOf, sizeOf, typeInfo, hti, h, Addr.add_mid, hc]
 ·simp [Instr.sliceAt, Instr.slice, run_underlying hu, Instr.sliceBounds, Instr.sliceBound, asIntOf, sizeOf, typeInfo, hti, h, Addr.add_mid, hts, hc]
theorem run_sl_both (lo hi : Nat) (h1 : lo ≤ hi) (h2 : hi ≤ cap) (w : World) : (Instr.sliceAt T (.slice (some ⟨b, off, none⟩) n cap) (some (.int .i64 (lo : Int))) (some (.int .i64 (hi : Int))) none).run P w = .ok (.slice (some (if cap = lo then ⟨b, off, none⟩ else ⟨b, off + lo * k, none⟩)) (hi - lo) (cap - lo)) w := by
 obtain ⟨ti, hti, hts⟩ := Option.map_eq_some_iff.1 he
 by_cases hc : cap = lo
 ·simp [Instr.sliceAt, Instr.slice, run_underlying hu, Instr.sliceBounds, Instr.sliceBound, asIntOf, sizeOf, typeInfo, hti, h1, Addr.add_mid, hts, hc]
  omega
 ·simp [Instr.sliceAt, Instr.slice, run_underlying hu, Instr.sliceBounds, Instr.sliceBound, asIntOf, sizeOf, typeInfo, hti, h1, h2, Addr.add_mid, hts, hc]
end
end
end Go.Sl
end
section
namespace Go.Proofs.YteikbikopgabjaaGreatDoor
open Go.RowKit Go.Vol Go.Sl
def setL : List Value → Nat → List Value → List Value
 | l, _, [] => l
 | l, a, x :: r => setL (l.set a x) (a + 1) r
end Go.Proofs.YteikbikopgabjaaGreatDoor
end
section
namespace Go.Proofs.YteikbikopgabjaaGreatDoor
open Go.RowKit Go.Vol Go.Sl
abbrev TSp : TypeId := 122
def SpPtr (w : World) (v : Value) (o : Option SpaceM) : Prop := match o with
 | none => v = .pointer none
 | some S => ∃ p : Nat, v = .pointer (some ⟨p, 0, none⟩) ∧ SpaceAt TNode TSp w p S
def Res3 (w : World) (R : ResM) (e : Ending) (w' : World) : Prop := ∃ v, e = .returned (.tuple #[v, .int .i64 R.id, .int .i64 R.e]) ∧ Below w.heap.size w w' ∧ SpPtr w' v R.sp
def Res2 (w : World) (R : ResM) (e : Ending) (w' : World) : Prop := ∃ v, e = .returned (.tuple #[v, .int .i64 R.e]) ∧ Below w.heap.size w w' ∧ SpPtr w' v R.sp
theorem sp_cells {w : World} {p : Nat} {vv vs : Value} (h : w.heap[p]? = some (.cells #[vv, vs] TSp (0, 0))) : w.cell? ⟨p, 0, none⟩ = some vv ∧ w.cell? ⟨p, 1, none⟩ = some vs ∧ p < w.heap.size :=
 ⟨cells_at h 0, cells_at h 1, (Array.getElem?_eq_some_iff.1 h).1⟩
end Go.Proofs.YteikbikopgabjaaGreatDoor
end
section
namespace Go.Proofs.YteikbikopgabjaaGreatDoor
open Go.RowKit Go.Vol Go.Sl
theorem at_cases {l : List ElM} {L : List PartM} (h : l.map Prod.fst = L) (id : Int) : (L[atN L id]? = none ∧ atI l id = -1) ∨
  ∃ x, l[atE l id]? = some x ∧ L[atN L id]? = some x.1 ∧ atI l id = (atE l id : Int) ∧ atE l id < l.length ∧ x.1.id = id ∧ atN L id = atE l id := by
 subst h
 rw [atE_map]
 rcases Nat.lt_or_ge (atE l id) l.length with hlt | hge
 ·refine .inr ⟨l[atE l id], List.getElem?_eq_getElem hlt, ?_, ?_, hlt, ?_, rfl⟩
  ·rw [List.getElem?_map, List.getElem?_eq_getElem hlt]; rfl
  ·unfold atI; rw [if_pos hlt]
  ·have := List.findIdx_getElem (w := hlt)
   exact eq_of_beq this
 ·refine .inl ⟨?_, ?_⟩
  ·rw [List.getElem?_eq_none]; rw [List.length_map]; exact hge
  ·unfold atI; rw [if_neg (by omega)]
theorem vol_cells {w : World} {ao : Option Addr} {n cap : Nat} {l : List ElM} {i : Nat} {x : ElM} (h : RowsAt w (.slice ao n cap) l.length (l.flatMap volE)) (hx : l[i]? = some x) : ∃ b : Nat, ao = some ⟨b, 0, none⟩ ∧ b < w.heap.size ∧
  w.cell? ⟨b, i * 4, none⟩ = some (.int .i64 x.1.id) ∧ w.cell? ⟨b, i * 4 + 1, none⟩ = some (.int .i64 x.1.tenant) ∧ w.cell? ⟨b, i * 4 + 2, none⟩ = some x.2 ∧ w.cell? ⟨b, i * 4 + 3, none⟩ = some (.int .i64 (cnt x.1.m : Int)) := by
 obtain ⟨ao', cap', e, _, _, h4⟩ := h
 obtain ⟨b, hb, hlt, hc⟩ := h4 (by have := (List.getElem?_eq_some_iff.1 hx).1; omega)
 simp only [Value.slice.injEq] at e
 refine ⟨b, e.1.trans hb, hlt, ?_, ?_, ?_, ?_⟩
 ·have := hc _ _ (flat_at volE_len l i x hx 0 _ rfl); rwa [Nat.add_zero] at this
 ·exact hc _ _ (flat_at volE_len l i x hx 1 _ rfl)
 ·exact hc _ _ (flat_at volE_len l i x hx 2 _ rfl)
 ·exact hc _ _ (flat_at volE_len l i x hx 3 _ rfl)
theorem snap_cells {w : World} {ao : Option Addr} {n cap : Nat} {l : List ElM} {i : Nat} {x : ElM} (h : RowsAt w (.slice ao n cap) l.length (l.flatMap snapE)) (hx : l[i]? = some x) : ∃ b : Nat, ao = some ⟨b, 0, none⟩ ∧ b < w.heap.size ∧
  w.cell? ⟨b, i * 5, none⟩ = some (.int .i64 x.1.id) ∧ w.cell? ⟨b, i * 5 + 1, none⟩ = some (.int .i64 x.1.tenant) ∧ w.cell? ⟨b, i * 5 + 2, none⟩ = some x.2 ∧ w.cell? ⟨b, i * 5 + 3, none⟩ = some (.int .i64 (cnt x.1.m : Int)) ∧ w.cell? ⟨b, i * 5 + 4, none⟩ = some (.int .i64 x.1.src) := by
 obtain ⟨ao', cap', e, _, _, h4⟩ := h
 obtain ⟨b, hb, hlt, hc⟩ := h4 (by have := (List.getElem?_eq_some_iff.1 hx).1; omega)
 simp only [Value.slice.injEq] at e
 refine ⟨b, e.1.trans hb, hlt, ?_, ?_, ?_, ?_, ?_⟩
 ·have := hc _ _ (flat_at snapE_len l i x hx 0 _ rfl); rwa [Nat.add_zero] at this
 ·exact hc _ _ (flat_at snapE_len l i x hx 1 _ rfl)
 ·exact hc _ _ (flat_at snapE_len l i x hx 2 _ rfl)
 ·exact hc _ _ (flat_at snapE_len l i x hx 3 _ rfl)
 ·exact hc _ _ (flat_at snapE_len l i x hx 4 _ rfl)
end Go.Proofs.YteikbikopgabjaaGreatDoor
end
section
namespace Go.Proofs.YteikbikopgabjaaGreatDoor
open Go.RowKit Go.Vol Go.Sl
theorem ElsAt.set {T : TypeId} {w : World} {l : List ElM} {i : Nat} {x : ElM} (h : ElsAt T w l) (hx : NodeAt T w 2 x.2 x.1.m) : ElsAt T w (l.set i x) := fun y hy => by
 rcases List.mem_or_eq_of_mem_set hy with hy | rfl
 ·exact h y hy
 ·exact hx
end Go.Proofs.YteikbikopgabjaaGreatDoor
end
section
namespace Go.Vol
end Go.Vol
namespace Go.Proofs.YteikbikopgabjaaGreatDoor
open Go.RowKit Go.Vol Go.Sl
theorem Res2.ok {w w' : World} {R : ResM} {e : Ending} {T : SpaceM} (h : Res2 w R e w') (h0 : R.e = 0) (hT : R.sp = some T) : ∃ p : Nat, e = .returned (.tuple #[.pointer (some ⟨p, 0, none⟩), .int .i64 0]) ∧ Hid (Below w.heap.size w w' ∧ SpaceAt TNode TSp w' p T) := by
 obtain ⟨v, rfl, hb, hs⟩ := h
 rw [hT] at hs
 obtain ⟨p, rfl, hs⟩ := hs
 exact ⟨p, by rw [h0], hb, hs⟩
theorem Res3.ok {w w' : World} {R : ResM} {e : Ending} {T : SpaceM} (h : Res3 w R e w') (h0 : R.e = 0) (hT : R.sp = some T) : ∃ p : Nat, e = .returned (.tuple #[.pointer (some ⟨p, 0, none⟩), .int .i64 R.id, .int .i64 0]) ∧ Hid (Below w.heap.size w w' ∧ SpaceAt TNode TSp w' p T) := by
 obtain ⟨v, rfl, hb, hs⟩ := h
 rw [hT] at hs
 obtain ⟨p, rfl, hs⟩ := hs
 exact ⟨p, by rw [h0], hb, hs⟩
end Go.Proofs.YteikbikopgabjaaGreatDoor
end
section
namespace Go.Vol
open Go Go.RowKit
def itemsF (n first : Nat) (m : MapM) : List (Nat × Int) := (List.range n).filterMap fun i => (m i).map fun c => (first + i, c)
def items (m : MapM) : List (Nat × Int) := itemsF 4096 0 m
theorem itemsF_zero (first : Nat) (m : MapM) : itemsF 0 first m = [] := rfl
theorem itemsF_succ (n first : Nat) (m : MapM) : itemsF (n + 1) first m = itemsF n first m ++ ((m n).map fun c => (first + n, c)).toList := by
 unfold itemsF
 rw [List.range_succ, List.filterMap_append]
 cases h : m n <;> simp [h]
theorem itemsF_some {n first : Nat} {m : MapM} {c : Int} (h : m n = some c) : itemsF (n + 1) first m = itemsF n first m ++ [(first + n, c)] := by rw [itemsF_succ, h]; rfl
theorem itemsF_none {n first : Nat} {m : MapM} (h : m n = none) : itemsF (n + 1) first m = itemsF n first m := by rw [itemsF_succ, h]; simp
theorem itemsF_congr {m m' : MapM} (first : Nat) : ∀ n, (∀ i, i < n → m i = m' i) → itemsF n first m = itemsF n first m'
 | 0, _ => rfl
 | n + 1, h => by rw [itemsF_succ, itemsF_succ, itemsF_congr first n (fun i hi => h i (by omega)), h n (by omega)]
theorem itemsF_nil {m : MapM} (first : Nat) : ∀ n, (∀ i, i < n → m i = none) → itemsF n first m = []
 | 0, _ => rfl
 | n + 1, h => by rw [itemsF_none (h n (by omega)), itemsF_nil first n fun i hi => h i (by omega)]
theorem itemsF_add (a first : Nat) (m : MapM) : ∀ b, itemsF (a + b) first m = itemsF a first m ++ itemsF b (first + a) (fun i => m (a + i))
 | 0 => by simp [itemsF_zero]
 | b + 1 => by rw [← Nat.add_assoc, itemsF_succ, itemsF_add a first m b, itemsF_succ, List.append_assoc, Nat.add_assoc]
theorem itemsF_sub (m : MapM) (L k first : Nat) : itemsF ((k + 1) * 16 ^ (L + 1)) first m = itemsF (k * 16 ^ (L + 1)) first m ++ itemsF (16 ^ (L + 1)) (first + k * 16 ^ (L + 1)) (sub m L k) := by
 rw [Nat.add_mul, Nat.one_mul, itemsF_add]
 congr 1
 apply itemsF_congr
 intro i hi
 unfold sub
 rw [if_pos hi]
theorem itemsF_sub_none {m : MapM} {L k : Nat} (first : Nat) (h : anyB (16 ^ (L + 1)) (sub m L k) = false) : itemsF ((k + 1) * 16 ^ (L + 1)) first m = itemsF (k * 16 ^ (L + 1)) first m := by
 rw [itemsF_sub, itemsF_nil _ _ (anyB_false.1 h), List.append_nil]
theorem itemsF_prefix {m : MapM} {first a b : Nat} (h : a ≤ b) : itemsF a first m <+: itemsF b first m := by
 obtain ⟨d, rfl⟩ := Nat.exists_eq_add_of_le h
 exact ⟨_, (itemsF_add a first m d).symm⟩
theorem itemsF_lenle {m : MapM} {first a b : Nat} (h : a ≤ b) : (itemsF a first m).length ≤ (itemsF b first m).length := (itemsF_prefix h).length_le
theorem itemsF_len (m : MapM) (first : Nat) : ∀ n, (itemsF n first m).length = cntF n m
 | 0 => rfl
 | n + 1 => by rw [itemsF_succ, cntF_succ, List.length_append, itemsF_len m first n]; cases m n <;> simp
theorem items_len (m : MapM) : (items m).length = cnt m := itemsF_len m 0 4096
end Go.Vol
end
section
namespace Go.Vol
open SpaceM
theorem atN_find (l : List PartM) (id : Int) : l[atN l id]? = l.find? fun p => p.id == id := by
 unfold atN
 induction l with
 | nil => rfl
 | cons p r ih =>
  rw [List.findIdx_cons, List.find?_cons]
  cases h : (p.id == id) with
  | true => simp
  | false => simpa using ih
def volF (S : SpaceM) (v : Int) : Option PartM := S.vols.find? fun p => p.id == v
def snapF (S : SpaceM) (v : Int) : Option PartM := S.snaps.find? fun p => p.id == v
def contM (S : SpaceM) (v : Int) : List (Nat × Int) × Int := match volF S v with | none => ([], 12) | some p => (items p.m, 0)
def imageM (S : SpaceM) (v : Int) : List (Nat × Int) × Int := match snapF S v with | none => ([], 12) | some p => (items p.m, 0)
end Go.Vol
end
