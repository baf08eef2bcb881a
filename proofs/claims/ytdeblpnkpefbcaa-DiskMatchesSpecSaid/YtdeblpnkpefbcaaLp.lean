/- What the laws of layer 16 do again and again: a script's loop, contents, a list's element replaced. -/
import Derived.Test.YtdeblpnkpefbcaaLo
namespace Go.Proofs.Ytdeblpnkpefbcaa
open Go.RowKit Go.Sl Go.ChangeMaps

/-! ### scripts on the plain model -/
def runM (D : DiskM) (l : List OpM) : DiskM := l.foldl (fun D o => (doM D o).1) D
theorem write_n (D : DiskM) (i : Int) (s : List UInt8) : (D.write i s).1.n = D.n := by
  unfold DiskM.write; split
  · unfold DiskM.put
    cases D.armed i.toNat with
    | none => rfl
    | some j => simp only; split <;> rfl
  · rfl
theorem rot_n (D : DiskM) (i j : Int) : (D.rot i j).1.n = D.n := by unfold DiskM.rot; split <;> rfl
theorem lose_n (D : DiskM) (i : Int) : (D.lose i).1.n = D.n := by unfold DiskM.lose; split <;> rfl
theorem misdirect_n (D : DiskM) (i j : Int) : (D.misdirect i j).1.n = D.n := by unfold DiskM.misdirect; split <;> rfl
theorem doM_n (D : DiskM) (o : OpM) : (doM D o).1.n = D.n := by
  unfold doM
  split; exact write_n D _ _
  split; rfl
  split; rfl
  split; exact rot_n D _ _
  split; exact lose_n D _
  split; exact misdirect_n D _ _
  rfl
theorem runM_n : ∀ (l : List OpM) (D : DiskM), (runM D l).n = D.n
  | [], _ => rfl
  | o :: l, D => by show (runM (doM D o).1 l).n = _; rw [runM_n l, doM_n]
theorem runM_take (D : DiskM) {l : List OpM} {k : Nat} {o : OpM} (h : l[k]? = some o) : runM D (l.take (k + 1)) = (doM (runM D (l.take k)) o).1 := by
  rw [List.take_add_one, h]; simp [runM, List.foldl_append]
theorem runM_all (D : DiskM) (l : List OpM) : runM D (l.take l.length) = runM D l := by rw [List.take_length]

/-! ### a script's loop in the code -/
structure LoopSt (w : World) (p : Nat) (D : DiskM) (l : List OpM) (X : HProp) (i : Value) (wr : World) : Prop where
  st : ∃ k : Nat, k ≤ l.length ∧ i = .int .i64 k ∧ Same w wr ∧ Sat wr (diskAt TD TS p (runM D (l.take k)) * (X * old w))

def zeroOp : OpM := ⟨0, 0, 0, 0, 0, []⟩
theorem zeroTOp (w : World) : (zeroValue TOp).run Try.prog w = .ok (.agg (opA zeroOp (.slice none 0 0))) w := by kernel_rfl
theorem opA_one {o : OpM} {v : Value} (h : v.oneCell' = true) : ∀ u ∈ (opA o v).toList, u.oneCell' = true := by
  intro u hu
  simp [opA] at hu
  rcases hu with rfl | rfl | rfl | rfl | rfl | rfl <;> first | rfl | exact h
theorem IntsAt.one {w : World} {v : Value} {l : List Int} (h : IntsAt w v l) : v.oneCell' = true := by
  obtain ⟨ao, c, rfl, _⟩ := h; rfl

section
variable {ops : Array Oper} {rest : List Oper} {op : Oper} {a : Act} {w : World} {Q : Exit → Act → World → Prop}
theorem wp_load_scr {o : OpM} {pv : Value} {b off : Nat} (hr : w.rangeAt b off (opA o pv).toList) (hg : op.guard = none) (x : Operand) (ho : op.op = .load TOp x)
    (hx : a.eval x = .pointer (some ⟨b, off, none⟩)) (k : wpList Try.prog ops Q rest (a.put op.dst (.agg (opA o pv))) w) : wpList Try.prog ops Q (op :: rest) a w :=
  wpList_load_mid hg TOp x ho b off hx (opA o pv).toList _ hr Try.underlying32 rfl (by rw [infoTOp o pv]; rfl) k
theorem wp_store_opf {o : OpM} {pv : Value} (h1 : pv.oneCell' = true) (hg : op.guard = none) (x y : Operand) (ho : op.op = .store TOp x y)
    (hx : a.eval x = .pointer (some ⟨w.heap.size, 0, none⟩)) (hy : a.eval y = .agg (opA o pv)) (k : wpList Try.prog ops Q rest (a.put op.dst undef) (w.alloc (.cells (opA o pv) TOp))) :
    wpList Try.prog ops Q (op :: rest) a (w.alloc (.cells (opA zeroOp (.slice none 0 0)) TOp)) :=
  wpList_store_fresh hg TOp x y ho TOp _ (opA o pv) hx hy (infoTOp o pv) rfl (opA_one h1) k
theorem wp_load_opf {o : OpM} {pv : Value} (hg : op.guard = none) (x : Operand) (ho : op.op = .load TOp x)
    (hx : a.eval x = .pointer (some ⟨w.heap.size, 0, none⟩)) (k : wpList Try.prog ops Q rest (a.put op.dst (.agg (opA o pv))) (w.alloc (.cells (opA o pv) TOp))) :
    wpList Try.prog ops Q (op :: rest) a (w.alloc (.cells (opA o pv) TOp)) :=
  wpList_load_fresh hg TOp x ho TOp _ _ hx _ Try.underlying32 rfl (infoTOp o pv) k
end

/-! ### contents, equal, an element replaced -/
def strB (D : DiskM) (k : Nat) : List ByteArray := (List.range k).map fun j => strV (D.content j)
theorem strB_map (D : DiskM) (k : Nat) : (strB D k).map Value.string = strL D k := by simp [strB, strL]
theorem strB_length (D : DiskM) (k : Nat) : (strB D k).length = k := by simp [strB]
theorem strB_congr {D D' : DiskM} {k : Nat} (h : ∀ j, j < k → D.content j = D'.content j) : strB D k = strB D' k := by
  apply List.ext_getElem?
  intro i
  by_cases hi : i < k
  · simp [strB, hi, h i hi]
  · simp [strB, hi]
theorem strB_set {D D' : DiskM} {k j : Nat} {s : List UInt8} (h : ∀ i, i < k → D'.content i = if i = j then s else D.content i) : (strB D k).set j (strV s) = strB D' k := by
  apply List.ext_getElem?
  intro i
  by_cases hi : i < k
  · rw [List.getElem?_set]
    by_cases hij : j = i
    · subst hij; simp [strB, hi, h j hi]
    · rw [if_neg hij]; simp [strB, hi, h i hi, Ne.symm hij]
  · rw [List.getElem?_eq_none (by simp [strB]; omega), List.getElem?_eq_none (by simp [strB]; omega)]

def rowS (v : Value) (l : List ByteArray) : HProp := ownAt TStr 1 v l.length (l.map Value.string)

theorem step_contents {p : Nat} {D : DiskM} {F : HProp} {w : World} {N : Nat} (hS : Sat w (diskAt TD TS p D * F)) (hN : D.n = N) :
    Calls Try.prog 22 #[.pointer (some ⟨p, 0, none⟩), .int .i64 (N : Int)] w fun e w' => ∃ v, e = .returned v ∧ Hid (Same w w' ∧ Sat w' (rowS v (strB D N) * (diskAt TD TS p D * F))) := by
  subst hN
  have := contents_any p D F w hS
  unfold rowS
  rw [strB_map, strB_length]
  exact this
/-- The two lists are compared; what the second one lies in is given up. -/
theorem step_equal {va vb : Value} {la lb : List ByteArray} {X : HProp} {w : World} (hS : Sat w (rowS vb lb * X)) (ha : ∀ w', Sat w' X → StrsAt w' va la) (hm : la.length ≤ 4611686018427387904) (b : Bool) (hb : decide (la = lb) = b) :
    Calls Try.prog 28 #[va, vb] w fun e w' => e = .returned (.bool b) ∧ Hid (Same w w' ∧ Sat w' X) := by
  subst hb
  refine (equal_any va vb la lb w (ha w hS.right) (ownAt_strs hS) hm).mono ?_
  rintro e w' ⟨he, hb⟩
  exact ⟨he, (Same.refl w).below hb, (hS.below hb).right⟩

theorem rowS_at {w : World} {v : Value} {l : List ByteArray} {X : HProp} (h : Sat w (rowS v l * X)) {j : Nat} (hj : j < l.length) :
    ∃ g cap, v = .slice (some ⟨g, 0, none⟩) l.length cap ∧ (∃ u, w.cell? ⟨g, j, none⟩ = some u) ∧ w.frozen? ⟨g, j, none⟩ = false ∧ ∀ x : ByteArray, Sat (w.setCell ⟨g, j, none⟩ (.string x)) (rowS v (l.set j x) * X) := by
  rcases ownAt_iff.1 h with ⟨_, h0, _⟩ | ⟨g, cap, cur, ⟨rfl, h1, h2, h3, h4, h5⟩, hs⟩
  · omega
  · refine ⟨g, cap, rfl, ?_, thawed_at hs.block _, fun x => ?_⟩
    · rw [cells_at hs.block]
      exact ⟨_, Array.getElem?_eq_getElem (by omega)⟩
    · unfold rowS
      rw [List.length_set]
      refine ownAt_iff.2 (.inr ⟨g, cap, _, ⟨rfl, h1, h2, by rw [Array.size_setIfInBounds]; exact h3, ?_, by simp⟩, hs.setCell (i := j) (.string x)⟩)
      rw [List.map_set, ← h4]
      apply List.ext_getElem?
      intro i
      rw [List.getElem?_take, List.getElem?_set, List.getElem?_take, Array.getElem?_toList, Array.getElem?_setIfInBounds]
      by_cases hij : j = i
      · subst hij
        have e1 : j < l.length * 1 := by omega
        have e2 : j < cur.size := by omega
        have e3 : j < (List.take (l.length * 1) cur.toList).length := by rw [h4]; simpa using hj
        simp only [if_pos e1, if_pos e2, if_pos e3, if_true]
      · simp [hij]
theorem rowS_strs {w : World} {v : Value} {l : List ByteArray} {X : HProp} (h : Sat w (rowS v l * X)) : StrsAt w v l := ownAt_strs h

end Go.Proofs.Ytdeblpnkpefbcaa
