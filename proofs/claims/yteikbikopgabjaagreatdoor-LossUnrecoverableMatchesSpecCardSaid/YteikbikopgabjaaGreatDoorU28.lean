import Derived.Test.YteikbikopgabjaaGreatDoorU24
import Derived.Test.YteikbikopgabjaaGreatDoorU25
import Derived.Test.YteikbikopgabjaaGreatDoorU20
import Derived.Test.YteikbikopgabjaaGreatDoorU27
import Derived.Test.YteikbikopgabjaaGreatDoorU18
/- Part 28 of a proof; the last part says what is proved. -/
section
namespace Go.GF
open Go
def colsM (n : Nat) (X : Mat) (t : Nat → Nat) : Mat := fun i j => if j < n then X j i else t i
def lineI (f : Nat → Nat) (n : Nat) : List Int := (List.range n).map fun i => ((f i : Nat) : Int)
theorem lineI_len (f : Nat → Nat) (n : Nat) : (lineI f n).length = n := by unfold lineI; simp
theorem lineI_at (f : Nat → Nat) {n i : Nat} (h : i < n) : (lineI f n)[i]? = some ((f i : Nat) : Int) := by unfold lineI; rw [List.getElem?_map, List.getElem?_range h]; rfl
theorem lineI_succ (f : Nat → Nat) (n : Nat) : lineI f (n + 1) = lineI f n ++ [((f n : Nat) : Int)] := by unfold lineI; rw [List.range_succ, List.map_append]; rfl
def linesI (X : Mat) (n R : Nat) : List (List Int) := (List.range n).map fun k => lineI (X k) R
theorem linesI_len (X : Mat) (n R : Nat) : (linesI X n R).length = n := by unfold linesI; simp
theorem linesI_at (X : Mat) {n R k : Nat} (h : k < n) : (linesI X n R)[k]? = some (lineI (X k) R) := by unfold linesI; rw [List.getElem?_map, List.getElem?_range h]; rfl
theorem colsM_lt {n : Nat} {X : Mat} {t : Nat → Nat} {i j : Nat} (h : j < n) : colsM n X t i j = X j i := by unfold colsM; rw [if_pos h]
theorem colsM_n {n : Nat} {X : Mat} {t : Nat → Nat} {i : Nat} : colsM n X t i n = t i := by unfold colsM; rw [if_neg (by omega)]
theorem red_len_mono {mul : Nat → Nat → Nat} {inv : Nat → Nat} (R : Nat) (M : Mat) (a : Nat) : ∀ d, (redM mul inv R (a + d) M).1.length ≤ (redM mul inv R a M).1.length + d
  | 0 => Nat.le_refl _
  | d + 1 => by
    have ih := red_len_mono (mul := mul) (inv := inv) R M a d
    rw [show a + (d + 1) = a + d + 1 by omega, redM_succ]
    unfold stepC
    cases findR (redM mul inv R (a + d) M).2 R (redM mul inv R (a + d) M).1.length (a + d) with
    | none => simp only; omega
    | some i => simp only [List.length_append, List.length_singleton]; omega
theorem expr_no {mul : Nat → Nat → Nat} {inv : Nat → Nat} {R n k : Nat} {M : Mat} (hk : k < n) (hl : (redM mul inv R k M).1.length = k) (hf : findR (redM mul inv R k M).2 R k k = none) : exprB mul inv R n M = false := by
  have h1 : (redM mul inv R (k + 1) M).1.length = k := by
    rw [redM_succ]; unfold stepC; rw [hl, hf]; exact hl
  have h2 := red_len_mono (mul := mul) (inv := inv) R M (k + 1) (n - (k + 1))
  rw [show k + 1 + (n - (k + 1)) = n by omega] at h2
  unfold exprB
  rw [decide_eq_false (by omega), Bool.false_and]
theorem red_next {mul : Nat → Nat → Nat} {inv : Nat → Nat} {R k i : Nat} {M : Mat} (hl : (redM mul inv R k M).1.length = k) (hf : findR (redM mul inv R k M).2 R k k = some i) :
    (redM mul inv R (k + 1) M).1.length = k + 1 ∧ (redM mul inv R (k + 1) M).2 = elimM mul inv R k k (redM mul inv R k M).2 := by
  rw [redM_succ]; unfold stepC; rw [hl, hf, elimM_some hf]
  refine ⟨by simp [hl], rfl⟩
theorem expr_bad {mul : Nat → Nat → Nat} {inv : Nat → Nat} {R n q : Nat} {M : Mat} (h1 : n ≤ q) (h2 : q < R) (h0 : (redM mul inv R n M).2 q n ≠ 0) : exprB mul inv R n M = false := by
  unfold exprB
  rw [Bool.and_eq_false_iff]
  right
  rw [List.all_eq_false]
  exact ⟨q, List.mem_range.2 h2, by simp [h0]; omega⟩
theorem expr_yes {mul : Nat → Nat → Nat} {inv : Nat → Nat} {R n : Nat} {M : Mat} (hl : (redM mul inv R n M).1.length = n) (h0 : ∀ q, n ≤ q → q < R → (redM mul inv R n M).2 q n = 0) : exprB mul inv R n M = true := by
  unfold exprB
  rw [decide_eq_true hl, Bool.true_and, List.all_eq_true]
  intro q hq
  by_cases h : q < n
  · simp [h]
  · simp [h0 q (by omega) (List.mem_range.1 hq)]
end Go.GF
namespace Go.Sl
open Go Go.RowKit Go.GF
def hdrsL (C : Nat) (g : Nat → Nat × Nat) (n : Nat) : List Value := (List.range n).map fun i => hdrV C (g i)
theorem hdrsL_len (C : Nat) (g : Nat → Nat × Nat) (n : Nat) : (hdrsL C g n).length = n := by unfold hdrsL; simp
theorem hdrsL_at {C : Nat} {g : Nat → Nat × Nat} {n i : Nat} (h : i < n) : (hdrsL C g n)[i]? = some (hdrV C (g i)) := by unfold hdrsL; rw [List.getElem?_map, List.getElem?_range h]; rfl
def snG (g : Nat → Nat × Nat) (n : Nat) (x : Nat × Nat) : Nat → Nat × Nat := fun i => if i = n then x else g i
theorem hdrsL_snoc (C : Nat) (g : Nat → Nat × Nat) (n : Nat) (x : Nat × Nat) : hdrsL C (snG g n x) (n + 1) = hdrsL C g n ++ [hdrV C x] := by
  unfold hdrsL
  rw [List.range_succ, List.map_append]
  congr 1
  · refine List.map_congr_left fun i hi => ?_
    have := List.mem_range.1 hi
    unfold snG
    rw [if_neg (by omega)]
  · simp [snG]
theorem bigs_snoc (T : TypeId) (C : Nat) (g : Nat → Nat × Nat) (M : Mat) (n : Nat) (x : Nat × Nat) : (bigs (n + 1) fun i => rowS T (snG g n x i) C (M i)) = rowS T x C (M n) * bigs n fun i => rowS T (g i) C (M i) := by
  show rowS T (snG g n x n) C (M n) * bigs n (fun i => rowS T (snG g n x i) C (M i)) = _
  rw [show snG g n x n = x by unfold snG; rw [if_pos rfl], bigs_congr (Q := fun i => rowS T (g i) C (M i)) fun k hk => by
    show rowS T (snG g n x k) C (M k) = _
    rw [show snG g n x k = g k by unfold snG; rw [if_neg (by omega)]]]
theorem row_of_own {w : World} {F : HProp} {T : TypeId} {v : Value} {n : Nat} {f : Nat → Nat} (hn : 0 < n) (h : Sat w (ownAt T 1 v n (intsV (lineI f n)) * F)) : ∃ x : Nat × Nat, v = hdrV n x ∧ Sat w (rowS T x n f * F) := by
  rcases ownAt_iff.1 h with ⟨_, h0, _⟩ | ⟨g, cap, cur, ⟨rfl, h1, h2, h3, h4, h5⟩, hs⟩
  · omega
  · refine ⟨(g, cap), rfl, rowS_iff.2 ⟨cur, ⟨h1, h2, by simpa using h3, fun j hj => ?_⟩, hs⟩⟩
    have := intsV_at (lineI_at f hj)
    rw [← h4, List.getElem?_take, if_pos (by omega), Array.getElem?_toList] at this
    exact this
theorem hdr_of_own {w : World} {F : HProp} {T : TypeId} {v : Value} {R C : Nat} {g : Nat → Nat × Nat} (hn : 0 < R) (h : Sat w (ownAt T 1 v R (hdrsL C g R) * F)) : ∃ ga cap, v = .slice (some ⟨ga, 0, none⟩) R cap ∧ Sat w (hdrS T ga cap R C g * F) := by
  rcases ownAt_iff.1 h with ⟨_, h0, _⟩ | ⟨ga, cap, cur, ⟨rfl, h1, h2, h3, h4, h5⟩, hs⟩
  · omega
  · refine ⟨ga, cap, rfl, hdrS_iff.2 ⟨cur, ⟨h1, h2, by simpa using h3, fun j hj => ?_⟩, hs⟩⟩
    have := hdrsL_at (C := C) (g := g) hj
    rw [← h4, List.getElem?_take, if_pos (by omega), Array.getElem?_toList] at this
    exact this
theorem rowI_own {w : World} {F : HProp} {T : TypeId} {v : Value} {L : List Int} (hs : Sat w (ownAt T 1 v L.length (intsV L) * F)) : RowI w v (intsV L) := by
  rcases ownAt_iff.1 hs with ⟨rfl, h1, -, -⟩ | ⟨g, cap, cur, ⟨rfl, h2, h3, -, -, -⟩, -⟩
  · obtain rfl := List.eq_nil_of_length_eq_zero h1
    exact ⟨none, 0, rfl, Nat.le_refl _, by unfold maxLen; omega, fun hh => absurd hh (by simp [intsV])⟩
  · refine ⟨some ⟨g, 0, none⟩, cap, by rw [intsV_len], by rw [intsV_len]; exact h2, h3, fun hp => ?_⟩
    rw [intsV_len] at hp
    obtain ⟨g', cap', e, hc⟩ := ownAt_cells hs hp
    cases e
    obtain ⟨x, hx⟩ : ∃ x, L[0]? = some x := ⟨_, List.getElem?_eq_getElem hp⟩
    exact ⟨g, 0, rfl, World.block_lt_of_cell? _ _ (hc 0 _ (intsV_at hx)), fun j u hu => by rw [Nat.zero_add]; exact hc j u hu⟩
theorem rowI_at {w : World} {ao : Option Addr} {n cp : Nat} {L : List Int} {i : Nat} {x : Int} (h : RowI w (.slice ao n cp) (intsV L)) (hx : L[i]? = some x) : n = L.length ∧ ∃ b off : Nat, ao = some ⟨b, off, none⟩ ∧ w.cell? ⟨b, off + i, none⟩ = some (.int .i64 x) := by
  obtain ⟨ao', cp', h1, h2, h3, h4⟩ := h
  cases h1
  obtain ⟨b, off, e, -, hc⟩ := h4 (by have := (List.getElem?_eq_some_iff.1 hx).1; rw [intsV_len]; omega)
  exact ⟨intsV_len L, b, off, e, hc i _ (intsV_at hx)⟩
theorem rowsI_at {w : World} {ao : Option Addr} {n cp : Nat} {L : List (List Int)} {r : List Int} {i j : Nat} {x : Int} (h : RowsI w (.slice ao n cp) L) (hr : L[i]? = some r) (hx : r[j]? = some x) :
    ∃ b off b2 off2 cp2 : Nat, ao = some ⟨b, off, none⟩ ∧ w.cell? ⟨b, off + i, none⟩ = some (.slice (some ⟨b2, off2, none⟩) r.length cp2) ∧ w.cell? ⟨b2, off2 + j, none⟩ = some (.int .i64 x) := by
  obtain ⟨rvs, ⟨ao', cp', h1, h2, h3, h4⟩, hl, hall⟩ := h
  cases h1
  have hi := (List.getElem?_eq_some_iff.1 hr).1
  obtain ⟨b, off, e, -, hc⟩ := h4 (by omega)
  obtain ⟨y, hy⟩ : ∃ y, rvs[i]? = some y := ⟨_, List.getElem?_eq_getElem (by omega)⟩
  obtain ⟨r', hr', hy2⟩ := hall i y hy
  rw [hr] at hr'
  cases hr'
  obtain ⟨ao2, cp2, e2, -⟩ := id hy2
  subst e2
  obtain ⟨-, b2, off2, e3, hc2⟩ := rowI_at hy2 hx
  subst e3
  rw [intsV_len] at hy
  exact ⟨b, off, b2, off2, cp2, e, by rw [hc i _ hy], hc2⟩
end Go.Sl
namespace Go.Proofs.YteikbikopgabjaaGreatDoor
open Go.RowKit Go.GF Go.Sl
theorem info_row3 : (Tryz.prog.info? TRo).map (fun i => (i.zero, i.size, i.bytes)) = some (some (.slice none 0 0), 1, 24) := by kernel_rfl
theorem wpList_apF {ops : Array Oper} {rest : List Oper} {o : Oper} {a : Act} {Q : Exit → Act → World → Prop} {F : HProp} {W : World} {t : TypeId} (hgd : o.guard = none) (s x : Operand)
    (ho : o.op = .call { callee := .builtin .append, args := #[s, x], argTypes := #[36, 36] }) {v : Value} {L : List Int} {z : Int} (hs : a.eval s = v) (hx : a.eval x = .slice (some ⟨W.heap.size, 0, none⟩) 1 1)
    (h : Sat W (ownAt TI 1 v L.length (intsV L) * F)) (hn : L.length ≤ 100000)
    (k : ∀ v' w', Same W w' → Sat w' (ownAt TI 1 v' (L ++ [z]).length (intsV (L ++ [z])) * F) → wpList Tryz.prog ops Q rest (a.put o.dst v') w') : wpList Tryz.prog ops Q (o :: rest) a (W.alloc (.cells #[.int .i64 z] t)) := by
  obtain ⟨i0, hi, hz0, hz1, hz2⟩ := info_parts info_int3
  refine wpList_append_ownAt (F := F) hgd s x 36 TI ho i0 _ Tryz.underlying36 hi hz0 hz1 hz2 rfl (h.allocKeep _) [.int .i64 z] hs hx rfl ?_ (by simp [Value.oneCell']) (by unfold maxLen; omega) (by omega) ?_
  · intro j u hu
    match j, hu with
    | 0, hu =>
      simp at hu
      subst hu
      rw [Addr.add_mid]
      unfold World.cell?
      rw [show (W.alloc (.cells #[.int .i64 z] t)).heap[W.heap.size]? = _ from World.alloc_heap_new W _]; rfl
  · intro v' w' h6
    refine k v' w' (((Same.refl W).alloc _).trans h6.out.1) ?_
    have := h6.out.2
    rw [show intsV L ++ [Value.int .i64 z] = intsV (L ++ [z]) by unfold intsV; simp, show L.length + 1 = (L ++ [z]).length by simp] at this
    exact this
theorem wpList_apR {ops : Array Oper} {rest : List Oper} {o : Oper} {a : Act} {Q : Exit → Act → World → Prop} {F : HProp} {W : World} {t : TypeId} (hgd : o.guard = none) (s x : Operand)
    (ho : o.op = .call { callee := .builtin .append, args := #[s, x], argTypes := #[44, 44] }) {v : Value} {L : List Value} {ao : Option Addr} {n cp : Nat} (hs : a.eval s = v) (hx : a.eval x = .slice (some ⟨W.heap.size, 0, none⟩) 1 1)
    {k : Nat} (hk : L.length = k) (h : Sat W (ownAt TRo 1 v k L * F)) (hn : k ≤ 100000)
    (c : ∀ v' w', Same W w' → Sat w' (ownAt TRo 1 v' (k + 1) (L ++ [.slice ao n cp]) * F) → wpList Tryz.prog ops Q rest (a.put o.dst v') w') : wpList Tryz.prog ops Q (o :: rest) a (W.alloc (.cells #[.slice ao n cp] t)) := by
  obtain ⟨i0, hi, hz0, hz1, hz2⟩ := info_parts info_row3
  refine wpList_append_ownAt (F := F) hgd s x 44 TRo ho i0 _ Tryz.underlying44 hi hz0 hz1 hz2 rfl (h.allocKeep _) [.slice ao n cp] hs hx rfl ?_ (by simp [Value.oneCell']) (by unfold maxLen; omega) (by omega) ?_
  · intro j u hu
    match j, hu with
    | 0, hu =>
      simp at hu
      subst hu
      rw [Addr.add_mid]
      unfold World.cell?
      rw [show (W.alloc (.cells #[.slice ao n cp] t)).heap[W.heap.size]? = _ from World.alloc_heap_new W _]; rfl
  · intro v' w' h6
    exact c v' w' (((Same.refl W).alloc _).trans h6.out.1) h6.out.2
end Go.Proofs.YteikbikopgabjaaGreatDoor
namespace Go.Proofs.YteikbikopgabjaaGreatDoor
open Go.RowKit Go.GF Go.Sl
structure ExB (w : World) (gs m n : Nat) (M : Mat) (j : Nat) (v : Value) (g : Nat → Nat × Nat) (F : HProp) (wr : World) : Prop where
  same : Same w wr
  sat : Sat wr (pts gs (.cells #[.int .i64 (m : Int), v] TSy (0, 0)) * (ownAt TRo 1 v j (hdrsL (n + 1) g j) * ((bigs j fun i => rowS TI (g i) (n + 1) (M i)) * F)))
theorem ExB.bel {w wr : World} {gs m n j : Nat} {M : Mat} {v : Value} {g : Nat → Nat × Nat} (h : ExB w gs m n M j v g (old w) wr) : Below w.heap.size w wr :=
  h.same.below_of (h.sat.perm (show _ = (pts gs (.cells #[.int .i64 (m : Int), v] TSy (0, 0)) * (ownAt TRo 1 v j (hdrsL (n + 1) g j) * bigs j fun i => rowS TI (g i) (n + 1) (M i))) * old w by ac_rfl))
structure ExO (w : World) (gs m n R : Nat) (M : Mat) (jv : Value) (wr : World) : Prop where
  st : ∃ j v g, j ≤ R ∧ jv = .int .i64 ((j : Nat) : Int) ∧ ExB w gs m n M j v g (old w) wr
structure ExI (w : World) (gs m n : Nat) (M : Mat) (j : Nat) (v : Value) (g : Nat → Nat × Nat) (eq kv : Value) (wr : World) : Prop where
  st : ∃ k : Nat, k ≤ n ∧ kv = .int .i64 (k : Int) ∧ Same w wr ∧
    Sat wr (ownAt TI 1 eq (lineI (M j) k).length (intsV (lineI (M j) k)) * (pts gs (.cells #[.int .i64 (m : Int), v] TSy (0, 0)) * (ownAt TRo 1 v j (hdrsL (n + 1) g j) * ((bigs j fun i => rowS TI (g i) (n + 1) (M i)) * old w))))
structure ExE (w : World) (gs m ga cap R n : Nat) (M : Mat) (kv : Value) (wr : World) : Prop where
  st : ∃ (k : Nat) (g : Nat → Nat × Nat), k ≤ n ∧ kv = .int .i64 (k : Int) ∧ (redM (mulC m) (invC m) R k M).1.length = k ∧ SysW w gs m ga cap R (n + 1) g (redM (mulC m) (invC m) R k M).2 (old w) wr
structure ExQ (w : World) (R n : Nat) (M : Mat) (qv : Value) (wr : World) : Prop where
  st : ∃ q : Nat, n ≤ q ∧ q ≤ R ∧ qv = .int .i64 (q : Int) ∧ (∀ i, n ≤ i → i < q → M i n = 0) ∧ w = wr
structure ExV (w : World) (gs m ga cap R n : Nat) (g : Nat → Nat × Nat) (M : Mat) (v kv : Value) (wr : World) : Prop where
  st : ∃ k : Nat, k ≤ n ∧ kv = .int .i64 (k : Int) ∧ Same w wr ∧ Sat wr (ownAt TI 1 v (lineI (fun i => M i n) k).length (intsV (lineI (fun i => M i n) k)) * (sysS TSy TRo TI gs m ga cap R (n + 1) g M * old w))
set_option maxRecDepth 20000 in
set_option maxHeartbeats 4000000 in
theorem express_any (m : Nat) (hm : isF m) (R n : Nat) (hR0 : 0 < R) (hR : R ≤ 32) (hn : n ≤ 32) (X : Mat) (t : Nat → Nat) (hX : ∀ j, j < n → ∀ i, i < R → X j i < 2 ^ m) (ht : ∀ i, i < R → t i < 2 ^ m) (rv tv : Value) (w : World)
    (hr : RowsI w rv (linesI X n R)) (htv : RowI w tv (intsV (lineI t R))) :
    Calls Tryz.prog 127 #[.int .i64 (m : Int), rv, tv] w fun e w' => Below w.heap.size w w' ∧ ∃ v, e = .returned (.tuple #[v, .bool (exprB (mulC m) (invC m) R n (colsM n X t))]) ∧
      (exprB (mulC m) (invC m) R n (colsM n X t) = true → RowI w' v (intsV (lineI (fun i => (redM (mulC m) (invC m) R n (colsM n X t)).2 i n) n))) := by
  have hMB : Bnd (2 ^ m) R (n + 1) (colsM n X t) := fun i hi j hj => by
    unfold colsM
    split
    · rename_i h; exact hX j h i hi
    · exact ht i hi
  have HEL := Lib.hid (fun gs ga cap g M hB k r (hk : k < n + 1) (hr : r ≤ R) F W hS => elim_any m hm R (n + 1) gs ga cap (by omega) (by omega) g M hB k r hk hr F W hS)
  have HRI := Lib.hid (fun k (hk : k ≤ n + 1) => redI (opsC hm) hMB k hk)
  have HR := Lib.hid (fun W (hb : Below w.heap.size w W) => And.intro (hr.below hb) (htv.below hb))
  obtain ⟨ar, cr, rfl⟩ := RowsI.shape hr
  obtain ⟨at_, ct, rfl, -⟩ := id htv
  rw [linesI_len] at *
  rw [intsV_len, lineI_len] at *
  have HXM := Lib.hid (fun i j (h : j < n) => colsM_lt (n := n) (X := X) (t := t) (i := i) h)
  have HXN := Lib.hid (fun i => colsM_n (n := n) (X := X) (t := t) (i := i))
  generalize hMM : colsM n X t = M at *
  have hn32 : (n : Int) ≤ 32 := by omega
  clear hX ht hr htv hm hMB hMM
  go_enter Tryz.func127, Tryz.ntmps127
  go_wp2
  have HA := Lib.hid (show ∀ t', t' = TSy → ExB w w.heap.size m n M 0 (.slice none 0 0) (fun _ => (0, 0)) (old w) (w.alloc (.cells #[.int .i64 (m : Int), .slice none 0 0] t')) from by
    rintro _ rfl
    refine ⟨(Same.refl w).alloc _, (ownAt_nil (T := TRo) (sz := 1).2 ((Sat.old w).alloc (.cells #[.int .i64 (m : Int), .slice none 0 0] TSy))).perm ?_⟩
    show _ = pts w.heap.size (.cells #[.int .i64 (m : Int), .slice none 0 0] TSy (0, 0)) * (ownAt TRo 1 (.slice none 0 0) 0 [] * (emp * old w))
    rw [emp_star]
    ac_rfl)
  generalize hgs : w.heap.size = gs at *
  go_loopw [9] (fun jv wr => ExO w gs m n R M jv wr) (fun jv _ => R - (intOf jv).toNat)
  case atStart => exact ⟨⟨0, _, _, Nat.zero_le _, rfl, HA.out _ rfl⟩⟩
  case round =>
    clear HA
    obtain ⟨j, v, g, hj, rfl, hB⟩ := hrel.st
    clear hrel
    have HB := Lib.hid hB
    clear hB
    by_cases hjR : j < R
    · have hjd : decide ((j : Int) < (R : Int)) = true := decide_eq_true (by omega)
      have hwj : IntKind.i64.wrap ((j : Int) + 1) = (j : Int) + 1 := IntWalk.i64_in _ (by omega)
      go_wp2
      obtain ⟨wo, rfl⟩ : ∃ wo : World, wo = wr := ⟨_, rfl⟩
      go_loopw [10, 11] (fun eq kv wr => ExI w gs m n M j v g eq kv wr) (fun _ kv _ => n - (intOf kv).toNat)
      case atStart => exact ⟨⟨0, Nat.zero_le _, rfl, HB.out.same, ownAt_nil.2 HB.out.sat⟩⟩
      case round =>
        clear HB
        obtain ⟨k, hk, rfl, hsm, hst⟩ := hrel.st
        clear hrel
        have HS := Lib.hid (And.intro hsm hst)
        have HBL := Lib.hid (HR.out wr (by
          have h := hsm.below_of (hst.perm (show _ = (ownAt TI 1 u10 (lineI (M j) k).length (intsV (lineI (M j) k)) * (pts gs (.cells #[.int .i64 (m : Int), v] TSy (0, 0)) * (ownAt TRo 1 v j (hdrsL (n + 1) g j) * (bigs j fun i => rowS TI (g i) (n + 1) (M i))))) * old w by ac_rfl))
          rw [hgs] at h
          exact h))
        clear hsm hst
        by_cases hkn : k < n
        · have hkd : decide ((k : Int) < (n : Int)) = true := decide_eq_true (by omega)
          have hwk : IntKind.i64.wrap ((k : Int) + 1) = (k : Int) + 1 := IntWalk.i64_in _ (by omega)
          obtain ⟨b, off, b2, off2, cp2, rfl, c1, c2⟩ := rowsI_at HBL.out.1 (linesI_at X hkn) (lineI_at (X k) hjR)
          rw [lineI_len] at c1
          go_wp2_with (at_builtin; refine wpList_apF rfl _ _ rfl rfl rfl HS.out.2 (by rw [lineI_len]; omega) ?_; intro v' w9 h9 h10)
          go_roundw
          case rel => exact ⟨⟨k + 1, hkn, rfl, HS.out.1.trans h9, by rw [lineI_succ, HXM.out j k hkn]; exact h10⟩⟩
          case measure => simp only [intOf]; omega
        · have hke : k = n := by omega
          have hkd : decide ((k : Int) < (n : Int)) = false := decide_eq_false (by omega)
          have HS2 := Lib.hid (show Sat wr (ownAt TI 1 u10 (lineI (M j) n).length (intsV (lineI (M j) n)) * (pts gs (.cells #[.int .i64 (m : Int), v] TSy (0, 0)) * (ownAt TRo 1 v j (hdrsL (n + 1) g j) * ((bigs j fun i => rowS TI (g i) (n + 1) (M i)) * old w)))) by have h := HS.out.2; rw [hke] at h; exact h)
          have HSM := Lib.hid HS.out.1
          obtain ⟨-, b3, off3, rfl, c3⟩ := rowI_at HBL.out.2 (lineI_at t hjR)
          obtain ⟨av, cv, hv⟩ := ownAt_slice (HS2.out.perm (show _ = ownAt TRo 1 v j (hdrsL (n + 1) g j) * (ownAt TI 1 u10 (lineI (M j) n).length (intsV (lineI (M j) n)) * (pts gs (.cells #[.int .i64 (m : Int), v] TSy (0, 0)) * ((bigs j fun i => rowS TI (g i) (n + 1) (M i)) * old w))) by ac_rfl))
          subst hv
          clear hke HS HBL
          go_wp2_with first
            | (at_builtin; refine wpList_apF rfl _ _ rfl rfl rfl HS2.out (by rw [lineI_len]; omega) ?_; intro v1 w9 h9 h10
               rw [← HXN.out j, ← lineI_succ, lineI_len] at h10
               obtain ⟨x, rfl, h11⟩ := row_of_own (by omega) h10
               have H11 := Lib.hid (And.intro h9 h11)
               have c4 := cells_at (h11.perm (show _ = pts gs (.cells #[.int .i64 (m : Int), .slice av j cv] TSy (0, 0)) * (rowS TI x (n + 1) (M j) * (ownAt TRo 1 (.slice av j cv) j (hdrsL (n + 1) g j) * ((bigs j fun i => rowS TI (g i) (n + 1) (M i)) * old w))) by ac_rfl)).block 1
               simp only [List.getElem?_toArray, List.getElem?_cons_succ, List.getElem?_cons_zero] at c4
               clear h9 h10 h11 c3
               unfold hdrV)
            | (at_builtin; refine wpList_apR (F := rowS TI x (n + 1) (M j) * (pts gs (.cells #[.int .i64 (m : Int), .slice av j cv] TSy (0, 0)) * ((bigs j fun i => rowS TI (g i) (n + 1) (M i)) * old w))) rfl _ _ rfl rfl rfl (hdrsL_len _ _ _) (H11.out.2.perm (by ac_rfl)) (by omega) ?_; intro v2 w10 h12 h13
               obtain ⟨ao2, cp2, rfl⟩ := ownAt_slice h13
               have hp := h13.perm (show _ = pts gs (.cells #[.int .i64 (m : Int), .slice av j cv] TSy (0, 0)) * (ownAt TRo 1 (.slice ao2 (j + 1) cp2) (j + 1) (hdrsL (n + 1) g j ++ [.slice (some ⟨x.1, 0, none⟩) (n + 1) x.2]) * (rowS TI x (n + 1) (M j) * ((bigs j fun i => rowS TI (g i) (n + 1) (M i)) * old w))) by ac_rfl)
               have c5 := cells_at hp.block 1
               simp only [List.getElem?_toArray, List.getElem?_cons_succ, List.getElem?_cons_zero] at c5
               have c6 := thawed_at hp.block 1
               have HP := Lib.hid (And.intro h12 hp)
               clear h12 h13 hp c4)
          have HN := Lib.hid (show ExB w gs m n M (j + 1) (.slice ao2 (j + 1) cp2) (snG g j x) (old w) (w10.setCell ⟨gs, 1, none⟩ (.slice ao2 (j + 1) cp2)) from by
            refine ⟨((HSM.out.trans H11.out.1).trans HP.out.1).setCell _ _, ?_⟩
            have h := HP.out.2.setCell (i := 1) (.slice ao2 (j + 1) cp2)
            simp only [List.setIfInBounds_toArray, List.set_cons_succ, List.set_cons_zero] at h
            rw [hdrsL_snoc, bigs_snoc]
            exact h.perm (by unfold hdrV; ac_rfl))
          generalize w10.setCell ⟨gs, 1, none⟩ (.slice ao2 (j + 1) cp2) = w11 at *
          clear c5 c6 HP H11
          go_roundw
          case rel => exact ⟨⟨j + 1, _, _, hjR, rfl, HN.out⟩⟩
          case measure => simp only [intOf]; omega
    · have hje : j = R := by omega
      have hjd : decide ((j : Int) < (R : Int)) = false := decide_eq_false (by omega)
      obtain rfl : R = j := hje.symm
      have hb := HB.out.sat
      obtain ⟨ga, cap, rfl, hs⟩ := hdr_of_own hR0 (hb.perm (show _ = ownAt TRo 1 v R (hdrsL (n + 1) g R) * (pts gs (.cells #[.int .i64 (m : Int), v] TSy (0, 0)) * ((bigs R fun i => rowS TI (g i) (n + 1) (M i)) * old w)) by ac_rfl))
      have HS0 := Lib.hid (show SysW w gs m ga cap R (n + 1) g M (old w) wr from ⟨HB.out.same, hs.perm (by unfold sysS; ac_rfl)⟩)
      clear HB hb hs
      go_wp2
      obtain ⟨wo, rfl⟩ : ∃ wo : World, wo = wr := ⟨_, rfl⟩
      go_loopw [12] (fun kv wr => ExE w gs m ga cap R n M kv wr) (fun kv _ => n - (intOf kv).toNat)
      case atStart => exact ⟨⟨0, g, Nat.zero_le _, rfl, rfl, HS0.out⟩⟩
      case round =>
        clear HS0
        obtain ⟨k, g2, hk, rfl, hl, hS⟩ := hrel.st
        clear hrel
        have HS := Lib.hid hS
        have HL := Lib.hid hl
        clear hS hl
        by_cases hkn : k < n
        · have hkd : decide ((k : Int) < (n : Int)) = true := decide_eq_true (by omega)
          have hwk : IntKind.i64.wrap ((k : Int) + 1) = (k : Int) + 1 := IntWalk.i64_in _ (by omega)
          have HC := Lib.hid (HEL.out gs ga cap g2 _ (HRI.out k (by omega)).bnd k k (by omega) (by have := (HRI.out k (by omega)).len; rw [HL.out] at this; exact this) (old w) wr HS.out.sat)
          cases hf : findR (redM (mulC m) (invC m) R k M).2 R k k with
          | none =>
            rw [hf] at HC
            have HN := Lib.hid (expr_no hkn HL.out hf)
            clear hf
            go_wp2_with (go_at_call 148; refine HC.out.mono ?_; rintro e w3 ⟨rfl, g3, h3⟩; simp only [Option.isSome_none])
            go_ret2
            rw [HN.out]
            exact ⟨(HS.out.same.trans h3.same).below_of h3.sat, _, rfl, fun h => absurd h (by decide)⟩
          | some i =>
            rw [hf] at HC
            have HN := Lib.hid (red_next HL.out hf)
            clear hf
            go_wp2_with (go_at_call 148; refine HC.out.mono ?_; rintro e w3 ⟨rfl, g3, h3⟩; simp only [Option.isSome_some])
            go_roundw
            case rel => exact ⟨⟨k + 1, g3, hkn, rfl, HN.out.1, HS.out.same.trans h3.same, by rw [HN.out.2]; exact h3.sat⟩⟩
            case measure => simp only [intOf]; omega
        · have hke : k = n := by omega
          have hkd : decide ((k : Int) < (n : Int)) = false := decide_eq_false (by omega)
          obtain rfl : n = k := hke.symm
          have hnR : n ≤ R := by have := (HRI.out n (by omega)).len; rw [HL.out] at this; exact this
          have HXS := Lib.hid (And.intro (fun q h1 h2 h3 => expr_bad (mul := mulC m) (inv := invC m) (R := R) (n := n) (q := q) (M := M) h1 h2 h3) (fun h => expr_yes (mul := mulC m) (inv := invC m) (R := R) (n := n) (M := M) HL.out h))
          generalize hM2 : (redM (mulC m) (invC m) R n M).2 = M2 at *
          have HM2 := Lib.hid hM2
          clear hM2
          obtain ⟨b0, b1⟩ := sys_box HS.out.sat
          go_wp2
          have HSW := Lib.hid HS.out
          clear HS HL
          obtain ⟨wo4, rfl⟩ : ∃ wo4 : World, wo4 = wr := ⟨_, rfl⟩
          go_loopw [14] (fun qv wr => ExQ wo4 R n M2 qv wr) (fun qv _ => R - (intOf qv).toNat)
          case atStart => exact ⟨⟨n, Nat.le_refl _, hnR, rfl, fun i h1 h2 => by omega, rfl⟩⟩
          case round =>
            obtain ⟨q, hnq, hq, rfl, hz, rfl⟩ := hrel.st
            clear hrel
            have HZ := Lib.hid hz
            clear hz
            by_cases hqR : q < R
            · have hqd : decide ((q : Int) < (R : Int)) = true := decide_eq_true (by omega)
              have hwq : IntKind.i64.wrap ((q : Int) + 1) = (q : Int) + 1 := IntWalk.i64_in _ (by omega)
              have c1 := sys_head HSW.out.sat hqR
              have c2 := (sys_cell HSW.out.sat hqR (show n < n + 1 by omega)).1
              by_cases h0 : M2 q n = 0
              · rw [h0] at c2
                have HZ2 := Lib.hid (show ∀ i, n ≤ i → i < q + 1 → M2 i n = 0 from fun i h1 h2 => by
                  by_cases e : i = q
                  · rw [e]; exact h0
                  · exact HZ.out i h1 (by omega))
                clear h0
                go_wp2
                go_roundw
                case rel => exact ⟨⟨q + 1, by omega, hqR, rfl, HZ2.out, rfl⟩⟩
                case measure => simp only [intOf]; omega
              · have h0d : (((M2 q n : Nat) : Int) != 0) = true := by simpa using h0
                have HN := Lib.hid (HXS.out.1 q hnq hqR h0)
                clear h0
                go_wp2
                go_ret2
                rw [HN.out]
                exact ⟨HSW.out.same.below_of HSW.out.sat, _, rfl, fun h => absurd h (by decide)⟩
            · have hqe : q = R := by omega
              have hqd : decide ((q : Int) < (R : Int)) = false := decide_eq_false (by omega)
              have HN := Lib.hid (HXS.out.2 fun i h1 h2 => HZ.out i h1 (by omega))
              clear hqe hnq
              go_wp2
              obtain ⟨wo5, rfl⟩ : ∃ wo5 : World, wo5 = wo4 := ⟨_, rfl⟩
              clear b0 b1
              go_loopw [15, 16] (fun v kv wr => ExV w gs m ga cap R n g2 M2 v kv wr) (fun _ kv _ => n - (intOf kv).toNat)
              case atStart => exact ⟨⟨0, Nat.zero_le _, rfl, HSW.out.same, ownAt_nil.2 HSW.out.sat⟩⟩
              case round =>
                clear HSW
                obtain ⟨k, hk, rfl, hsm, hst⟩ := hrel.st
                clear hrel
                have HS := Lib.hid (And.intro hsm hst)
                have hs2 := hst.perm (show _ = sysS TSy TRo TI gs m ga cap R (n + 1) g2 M2 * (ownAt TI 1 u15 (lineI (fun i => M2 i n) k).length (intsV (lineI (fun i => M2 i n) k)) * old w) by ac_rfl)
                obtain ⟨b0, b1⟩ := sys_box hs2
                by_cases hkn : k < n
                · have hkd : decide ((k : Int) < (n : Int)) = true := decide_eq_true (by omega)
                  have hwk : IntKind.i64.wrap ((k : Int) + 1) = (k : Int) + 1 := IntWalk.i64_in _ (by omega)
                  have c1 := sys_head hs2 (show k < R by omega)
                  have c2 := (sys_cell hs2 (show k < R by omega) (show n < n + 1 by omega)).1
                  clear hsm hst hs2
                  go_wp2_with (at_builtin; refine wpList_apF rfl _ _ rfl rfl rfl HS.out.2 (by rw [lineI_len]; omega) ?_; intro v9 w9 h9 h10)
                  go_roundw
                  case rel => exact ⟨⟨k + 1, hkn, rfl, HS.out.1.trans h9, by rw [lineI_succ]; exact h10⟩⟩
                  case measure => simp only [intOf]; omega
                · have hke : k = n := by omega
                  have hkd : decide ((k : Int) < (n : Int)) = false := decide_eq_false (by omega)
                  obtain rfl : n = k := hke.symm
                  clear hsm hst hs2
                  go_wp2
                  go_ret2
                  rw [HN.out, HM2.out]
                  refine ⟨?_, _, rfl, fun _ => rowI_own HS.out.2⟩
                  rw [← hgs]
                  exact HS.out.1.below_of (HS.out.2.perm (show _ = (ownAt TI 1 u15 (lineI (fun i => M2 i n) n).length (intsV (lineI (fun i => M2 i n) n)) * sysS TSy TRo TI gs m ga cap R (n + 1) g2 M2) * old w by ac_rfl))
end Go.Proofs.YteikbikopgabjaaGreatDoor
end
section
namespace Go.Proofs.YteikbikopgabjaaGreatDoor
open Go.RowKit Go.Sha Go.Sl Go.GF Go.Vol Go.Loss
def sameD (a b : List UInt8) : Bool := (List.range 16).all fun j => Go.Sha.sumN ([3] ++ lenB a) j == Go.Sha.sumN ([3] ++ lenB b) j
theorem sameD_iff {a b : List UInt8} : sameD a b = true ↔ digM a = digM b := by
  unfold sameD digM
  rw [List.all_eq_true]
  constructor
  · intro h
    exact arrK_congr fun j hj => by simpa using h j (List.mem_range.2 hj)
  · intro h j hj
    have hj2 : j < 16 := List.mem_range.1 hj
    have h4 := congrArg (fun a => a[j]?) h
    have h5 := (arrK_at .u8 16 (Go.Sha.sumN ([3] ++ lenB a)) hj2).symm.trans (h4.trans (arrK_at .u8 16 (Go.Sha.sumN ([3] ++ lenB b)) hj2))
    have h7 := (Value.int.inj (Option.some.inj h5)).2
    simp only [beq_iff_eq]
    omega
theorem load_dig {w : World} {b o : Nat} {s : List UInt8} (h : w.rangeAt b o (digM s).toList) : (loadVar TD ⟨b, o, none⟩).run Tryz.prog w = .ok (.agg (digM s)) w := by
  have := run_loadVar_mid (P := Tryz.prog) w b o TD (digM s).toList _ h Tryz.underlying67 rfl (by rw [Array.length_toList, digM_size]; kernel_rfl)
  rwa [Array.toArray_toList] at this
def idsL (n : Nat) : List Int := (List.range n).map fun i => ((i : Nat) : Int) + 1
theorem idsL_len (n : Nat) : (idsL n).length = n := by simp [idsL]
theorem idsL_succ (n : Nat) : idsL (n + 1) = idsL n ++ [(n : Int) + 1] := by unfold idsL; rw [List.range_succ, List.map_append]; rfl
structure IdS (w : World) (n : Nat) (v i : Value) (wr : World) : Prop where
  st : ∃ k : Nat, k ≤ n ∧ i = .int .i64 (k : Int) ∧ Same w wr ∧ Sat wr (ownAt TI 1 v (idsL k).length (intsV (idsL k)) * old w)
set_option maxRecDepth 20000 in
set_option maxHeartbeats 2000000 in
theorem ids_any (p b cap : Nat) (rb : Nat → Nat) (L : List ChM) (w : World) (hT : TabR w p b cap rb L) :
    Calls Tryz.prog 38 #[.pointer (some ⟨p, 0, none⟩)] w fun e w' => ∃ v, e = .returned v ∧ Same w w' ∧ Sat w' (ownAt TI 1 v (idsL L.length).length (intsV (idsL L.length)) * old w) := by
  obtain ⟨tc, htc, htcs⟩ := Option.map_eq_some_iff.1 (show (Tryz.prog.info? TCh).map (·.size) = some 23 from by kernel_rfl)
  have HT := Lib.hid (fun W (h : Below w.heap.size w W) => hT.below h)
  have hmx := hT.max
  have c0 := hT.hd
  have HAO := Lib.hid (fun h : 0 < L.length => sOf_pos (b := b) h)
  generalize sOf b L = ao at HAO c0
  obtain ⟨n, hn⟩ : ∃ n, n = L.length := ⟨_, rfl⟩
  rw [← hn] at hmx HAO c0 ⊢
  have HN := Lib.hid hn
  clear hT hn
  go_enter Tryz.func38, Tryz.ntmps38
  go_wp2
  clear c0
  go_loopw [3, 11] (fun v i wr => IdS w n v i wr) (fun _ i _ => n - (intOf i).toNat)
  case atStart => exact ⟨⟨0, Nat.zero_le _, rfl, Same.refl _, ownAt_nil.2 (Sat.old w)⟩⟩
  case round =>
    obtain ⟨i, hi1, rfl, hsm, hst⟩ := hrel.st
    clear hrel
    have HS := Lib.hid (And.intro hsm hst)
    clear hsm hst
    have hi3 : (i : Int) ≤ 1000 := by omega
    by_cases hlt : i < n
    · have hltd : decide ((i : Int) < (n : Int)) = true := decide_eq_true (by omega)
      obtain rfl := HAO.out (by omega)
      have HB := Lib.hid (HS.out.1.below_of HS.out.2)
      have hT := HT.out wr HB.out
      obtain ⟨x, hx⟩ : ∃ x, L[i]? = some x := ⟨_, List.getElem?_eq_getElem (by have := HN.out; omega)⟩
      have HR := hT.row _ x hx
      have HV := chA_at i (rb i) x
      have HO := chA_one i (rb i) x
      generalize chA i (rb i) x = A at HR HV HO
      replace HR := Lib.hid HR
      replace HV := Lib.hid HV
      replace HO := Lib.hid HO
      clear hT hx
      have HW3 := Lib.hid (And.intro (HS.out.1.alloc (.cells zCh TCh)) (HS.out.2.alloc (.cells zCh TCh)))
      have HLn := Lib.hid (idsL_succ i)
      have HLl := Lib.hid (idsL_len i)
      go_upto_region 5 with (first
        | ((with_reducible (apply wp_load_ch HV.out.size HR.out)); rfl; rfl; rfl)
        | ((with_reducible (refine wpList_alloc_zero ?_ TCh ?_ _ (zeroCh _) ?_)); rfl; rfl; generalize wr.alloc (.cells zCh TCh) = w3 at HW3 ⊢; generalize wr.heap.size = g5 at HW3 ⊢)
        | (refine wpList_store_blk (T := TCh) (old := zCh) (new := A) rfl rfl rfl rfl HW3.out.2 (infoCh HV.out.size) (by rw [HV.out.size]; rfl) HO.out ?_; intro w4 h4))
      have HW4 := Lib.hid (And.intro (HW3.out.1.trans h4.out.1) (h4.out.2.perm (show _ = ownAt TI 1 u3 (idsL i).length (intsV (idsL i)) * (pts g5 (.cells A TCh (0, 0)) * old w) by ac_rfl)))
      have c5 := (cells_at h4.out.2.block 0).trans HV.out.id
      clear h4 HW3 HS
      go_wp2_with (at_builtin; refine wpList_apF rfl _ _ rfl rfl rfl HW4.out.2 (by rw [HLl.out]; omega) ?_; intro v6 w6 h5 h6)
      refine ⟨⟨i + 1, by omega, by push_cast; rfl, HW4.out.1.trans h5, ?_⟩, by simp only [intOf]; omega⟩
      rw [HLn.out]
      exact (h6.perm (show _ = pts g5 (.cells A TCh (0, 0)) * (ownAt TI 1 v6 (idsL i ++ [(i : Int) + 1]).length (intsV (idsL i ++ [(i : Int) + 1])) * old w) by ac_rfl)).right
    · have hie : i = n := by omega
      subst hie
      have hltd : decide ((i : Int) < (i : Int)) = false := decide_eq_false (by omega)
      go_wp2
      go_ret
      exact ⟨_, rfl, HS.out.1, HS.out.2⟩
end Go.Proofs.YteikbikopgabjaaGreatDoor
end
