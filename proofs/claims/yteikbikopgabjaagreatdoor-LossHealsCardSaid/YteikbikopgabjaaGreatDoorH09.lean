import Derived.Test.YteikbikopgabjaaGreatDoorH08
/- Part 9 of a proof; the last part says what is proved. -/
namespace Go.Sha
open Go Go.RowKit Go.Sl
def arrK (k : IntKind) (n : Nat) (f : Nat → Nat) : Array Value := ((List.range n).map fun j => Value.int k ((f j : Nat) : Int)).toArray
theorem arrK_size (k : IntKind) (n : Nat) (f : Nat → Nat) : (arrK k n f).size = n := by unfold arrK; simp
theorem arrK_at (k : IntKind) (n : Nat) (f : Nat → Nat) {j : Nat} (h : j < n) : (arrK k n f)[j]? = some (.int k ((f j : Nat) : Int)) := by unfold arrK; simp [h]
theorem arrK_one (k : IntKind) (n : Nat) (f : Nat → Nat) : ∀ v ∈ (arrK k n f).toList, v.oneCell' = true := by
 intro v hv
 unfold arrK at hv
 simp at hv
 obtain ⟨j, _, rfl⟩ := hv
 rfl
theorem arrK_set (k : IntKind) (n : Nat) (f : Nat → Nat) (i x : Nat) : (arrK k n f).setIfInBounds i (.int k (x : Int)) = arrK k n fun j => if j = i then x else f j := by
 apply Array.ext_getElem?
 intro j
 by_cases hj : j < n
 ·rw [arrK_at _ _ _ hj]
  by_cases e : j = i
  ·subst e; rw [Array.getElem?_setIfInBounds_self_of_lt (by rw [arrK_size]; exact hj), if_pos rfl]
  ·rw [Array.getElem?_setIfInBounds_ne (Ne.symm e), arrK_at _ _ _ hj, if_neg e]
 ·rw [Array.getElem?_eq_none (by rw [Array.size_setIfInBounds, arrK_size]; omega), Array.getElem?_eq_none (by rw [arrK_size]; omega)]
theorem arrK_congr {k : IntKind} {n : Nat} {f g : Nat → Nat} (h : ∀ j, j < n → f j = g j) : arrK k n f = arrK k n g := by
 apply Array.ext_getElem?
 intro j
 by_cases hj : j < n
 ·rw [arrK_at _ _ _ hj, arrK_at _ _ _ hj, h j hj]
 ·rw [Array.getElem?_eq_none (by rw [arrK_size]; omega), Array.getElem?_eq_none (by rw [arrK_size]; omega)]
theorem padL_len {l : List UInt8} (h : l.length = 35) : (padL l).length = 64 := by unfold padL; simp [h]
def sumS (l : List UInt8) : Nat → Nat := st8 (blockM startM (byN (padL l)))
def sumN (l : List UInt8) (i : Nat) : Nat := shr32 (sumS l (i / 4)) (24 - 8 * (i % 4)) % 256
theorem sumS_lt (l : List UInt8) (j : Nat) : sumS l j < 4294967296 := st8_lt (plus_ok _ _) j
theorem wv_rounds (B : Nat → Nat) (s : St) (t : Nat) : roundsM (wordsM B 64) s (t + 1) = roundM (roundsM (wordsM B 64) s t) (kM t) (wv B t) := rfl
def zV : Array Value := Array.replicate 8 (.int .u32 0)
def zB : Array Value := Array.replicate 32 (.int .u8 0)
theorem zB_arr : zB = arrK .u8 32 fun _ => 0 := rfl
end Go.Sha
namespace Go.Proofs.YteikbikopgabjaaGreatDoor
open Go.RowKit Go.Sha Go.Sl Go.GF
attribute [local go_sem high] o_xor o_and o_or o_add
abbrev TV : TypeId := 215
abbrev TB : TypeId := 181
theorem zeroV (w : World) : (zeroValue TV).run Tryz.prog w = .ok (.agg zV) w := by kernel_rfl
theorem zeroB (w : World) : (zeroValue TB).run Tryz.prog w = .ok (.agg zB) w := by kernel_rfl
theorem infoV {c : Array Value} (h : c.size = 8) : (Tryz.prog.info? TV).map (·.size) = some c.size := by rw [h]; kernel_rfl
theorem infoB {c : Array Value} (h : c.size = 32) : (Tryz.prog.info? TB).map (·.size) = some c.size := by rw [h]; kernel_rfl
theorem exec_ixN {a : Act} {o : Oper} {w : World} {b i : Nat} {x y : Operand} (ho : o.op = .indexAddr TV x y) (hx : a.eval x = .pointer (some ⟨b, 0, none⟩)) (hy : a.eval y = .int .i64 (i : Int)) (hi : i < 8) :
  (execOp a.eval o).run Tryz.prog w = .ok (.value (.pointer (some ⟨b, 0 + i, none⟩))) w := by
 obtain ⟨ti, hti, hts⟩ := Option.map_eq_some_iff.1 info_u32
 have h := exec_index_array (P := Tryz.prog) (w := w) ho hx hy Tryz.underlying215 hti hts hi
 rwa [Nat.mul_one] at h
theorem exec_ixV {a : Act} {o : Oper} {w : World} {b : Nat} {z : Int} {x y : Operand} (ho : o.op = .indexAddr TV x y) (hx : a.eval x = .pointer (some ⟨b, 0, none⟩)) (hy : a.eval y = .int .i64 z) (h0 : 0 ≤ z) (h8 : z < 8) :
  (execOp a.eval o).run Tryz.prog w = .ok (.value (.pointer (some ⟨b, z.toNat, none⟩))) w := by
 obtain ⟨i, rfl⟩ := Int.eq_ofNat_of_zero_le h0
 have h := exec_ixN (w := w) ho hx hy (by omega)
 rwa [Nat.zero_add] at h
theorem exec_ixB {a : Act} {o : Oper} {w : World} {b i : Nat} {x y : Operand} (ho : o.op = .indexAddr TB x y) (hx : a.eval x = .pointer (some ⟨b, 0, none⟩)) (hy : a.eval y = .int .i64 (i : Int)) (hi : i < 32) :
  (execOp a.eval o).run Tryz.prog w = .ok (.value (.pointer (some ⟨b, i, none⟩))) w := by
 obtain ⟨ti, hti, hts⟩ := Option.map_eq_some_iff.1 info_u8
 have h := exec_index_array (P := Tryz.prog) (w := w) ho hx hy Tryz.underlying181 hti hts hi
 rwa [Nat.mul_one, Nat.zero_add] at h
def TabK (w : World) : Prop := ∀ j, j < 64 → w.cell? ⟨1, 0 + j * 1, none⟩ = some (.int .u32 ((kM j : Nat) : Int))
theorem TabK.below {w w' : World} (h : TabK w) (hb : Below w.heap.size w w') : TabK w' := fun j hj => (hb.cell (World.block_lt_of_cell? _ _ (h j hj))).trans (h j hj)
structure SW (w0 : World) (g7 g6 g3 : Nat) (s7 : Nat → Nat) (B : Nat → Nat) (s3 : Nat → Nat) (R : HProp) (wr : World) : Prop where
 same : Same w0 wr
 sat : Sat wr (pts g7 (.cells (arr 8 s7) TV (0, 0)) * (pts g6 (.cells (wA B) TW (0, 0)) * (pts g3 (.cells (arr 8 s3) TV (0, 0)) * (R * old w0))))
section
variable {w0 wr w' : World} {g7 g6 g3 : Nat} {s7 B s3 : Nat → Nat} {R : HProp}
theorem SW.bel (h : SW w0 g7 g6 g3 s7 B s3 R wr) : Below w0.heap.size w0 wr :=
 h.same.below_of (h.sat.perm (show _ = (pts g7 (.cells (arr 8 s7) TV (0, 0)) * (pts g6 (.cells (wA B) TW (0, 0)) * (pts g3 (.cells (arr 8 s3) TV (0, 0)) * R))) * old w0 by ac_rfl))
theorem SW.below (h : SW w0 g7 g6 g3 s7 B s3 R wr) (hb : Below wr.heap.size wr w') : SW w0 g7 g6 g3 s7 B s3 R w' := ⟨h.same.below hb, h.sat.below hb⟩
theorem SW.drew (h : SW w0 g7 g6 g3 s7 B s3 R wr) : SW w0 g7 g6 g3 s7 B s3 R wr.drew := h.below (Below.refl _ _).drew
theorem SW.c7 (h : SW w0 g7 g6 g3 s7 B s3 R wr) {j : Nat} (hj : j < 8) : wr.cell? ⟨g7, j, none⟩ = some (.int .u32 ((s7 j : Nat) : Int)) := by
 rw [cells_at h.sat.block]; exact arr_at 8 s7 hj
theorem SW.c7n (h : SW w0 g7 g6 g3 s7 B s3 R wr) {j : Nat} (hj : j < 8) : wr.cell? ⟨g7, 0 + j, none⟩ = some (.int .u32 ((s7 j : Nat) : Int)) := by
 rw [Nat.zero_add]; exact h.c7 hj
theorem SW.sat6 (h : SW w0 g7 g6 g3 s7 B s3 R wr) : Sat wr (pts g6 (.cells (wA B) TW (0, 0)) * (pts g7 (.cells (arr 8 s7) TV (0, 0)) * (pts g3 (.cells (arr 8 s3) TV (0, 0)) * (R * old w0)))) := h.sat.perm (by ac_rfl)
theorem SW.sat3 (h : SW w0 g7 g6 g3 s7 B s3 R wr) : Sat wr (pts g3 (.cells (arr 8 s3) TV (0, 0)) * (pts g7 (.cells (arr 8 s7) TV (0, 0)) * (pts g6 (.cells (wA B) TW (0, 0)) * (R * old w0)))) := h.sat.perm (by ac_rfl)
theorem SW.c6 (h : SW w0 g7 g6 g3 s7 B s3 R wr) {j : Nat} (hj : j < 64) : wr.cell? ⟨g6, 0 + j * 1, none⟩ = some (.int .u32 ((wv B j : Nat) : Int)) := by
 rw [cells_at h.sat6.block, Nat.zero_add, Nat.mul_one]
 unfold wA; simp [hj]
theorem SW.c3n (h : SW w0 g7 g6 g3 s7 B s3 R wr) {j : Nat} (hj : j < 8) : wr.cell? ⟨g3, 0 + j, none⟩ = some (.int .u32 ((s3 j : Nat) : Int)) := by
 rw [cells_at h.sat3.block, Nat.zero_add]; exact arr_at 8 s3 hj
theorem SW.free3 (h : SW w0 g7 g6 g3 s7 B s3 R wr) (j : Nat) : wr.frozen? ⟨g3, 0 + j, none⟩ = false := by
 rw [Nat.zero_add]; exact thawed_at h.sat3.block _
theorem SW.set3 (h : SW w0 g7 g6 g3 s7 B s3 R wr) (i x : Nat) : SW w0 g7 g6 g3 s7 B (fun j => if j = i then x else s3 j) R (wr.setCell ⟨g3, 0 + i, none⟩ (.int .u32 (x : Int))) := by
 rw [Nat.zero_add]
 refine ⟨h.same.setCell _ _, ?_⟩
 have h2 := h.sat3.setCell (i := i) (.int .u32 (x : Int))
 rw [arr_set] at h2
 exact h2.perm (by ac_rfl)
end
structure L1S (w0 : World) (l : List UInt8) (mv : Value) (g3 g2 : Nat) (iv : Value) (wr : World) : Prop where
 st : Same w0 wr ∧ ((iv = .int .i64 0 ∧ Sat wr (pts g3 (.cells (arr 8 (st8 startM)) TV (0, 0)) * (pts g2 (.cells zB TB (0, 0)) * (own8 mv (padL l) * old w0)))) ∨
  (iv = .int .i64 64 ∧ ∃ R, Sat wr (pts g3 (.cells (arr 8 (sumS l)) TV (0, 0)) * (pts g2 (.cells zB TB (0, 0)) * (R * old w0)))))
structure L2S (w0 : World) (g7 g6 g3 : Nat) (B : Nat → Nat) (R : HProp) (tv : Value) (wr : World) : Prop where
 st : ∃ t : Nat, t ≤ 64 ∧ tv = .int .i64 (t : Int) ∧ SW w0 g7 g6 g3 (st8 (roundsM (wordsM B 64) startM t)) B (st8 startM) R wr
structure L3S (w0 : World) (g7 g6 g3 : Nat) (s7 B s3 : Nat → Nat) (R : HProp) (tv : Value) (wr : World) : Prop where
 st : ∃ i : Nat, i ≤ 8 ∧ tv = .int .i64 (i : Int) ∧ SW w0 g7 g6 g3 s7 B (fun j => if j < i then add32 (s3 j) (s7 j) else s3 j) R wr
section
variable {ops : Array Oper} {rest : List Oper} {o : Oper} {a : Act} {w : World} {Q : Exit → Act → World → Prop}
theorem wp_load_V {g : Nat} {c : Array Value} (hb : w.heap[g]? = some (.cells c TV (0, 0))) (hc : c.size = 8) (hg : o.guard = none) (x : Operand) (ho : o.op = .load TV x) (hx : a.eval x = .pointer (some ⟨g, 0, none⟩))
  (k : wpList Tryz.prog ops Q rest (a.put o.dst (.agg c)) w) : wpList Tryz.prog ops Q (o :: rest) a w :=
 wpList_load_row hg TV x ho g hx TV c (0, 0) _ hb Tryz.underlying215 rfl (infoV hc) k
theorem wp_load_B {g : Nat} {c : Array Value} (hb : w.heap[g]? = some (.cells c TB (0, 0))) (hc : c.size = 32) (hg : o.guard = none) (x : Operand) (ho : o.op = .load TB x) (hx : a.eval x = .pointer (some ⟨g, 0, none⟩))
  (k : wpList Tryz.prog ops Q rest (a.put o.dst (.agg c)) w) : wpList Tryz.prog ops Q (o :: rest) a w :=
 wpList_load_row hg TB x ho g hx TB c (0, 0) _ hb Tryz.underlying181 rfl (infoB hc) k
end
theorem b_quo4 (t : TypeId) (a : Nat) (ha : a < 4611686018427387904) : binOp .quo t (.int .i64 (a : Int)) (.int .i64 4) = pure (.int .i64 ((a / 4 : Nat) : Int)) := by
 have hy0 : ¬ ((4 : Int) = 0) := by decide
 have e : (a : Int).tdiv 4 = ((a / 4 : Nat) : Int) := by rw [Int.natCast_ediv]; exact Int.tdiv_eq_ediv_of_nonneg (by omega)
 have hw : IntKind.i64.wrap ((a / 4 : Nat) : Int) = ((a / 4 : Nat) : Int) := IntWalk.i64_in _ (by omega)
 have h0 : binOp .quo t (.int .i64 (a : Int)) (.int .i64 4) = Op.intDiv .quo .i64 (a : Int) 4 := rfl
 rw [h0]
 unfold Op.intDiv
 rw [if_neg hy0, e]
 show (pure (Value.int .i64 (IntKind.i64.wrap ((a / 4 : Nat) : Int))) : Sem Value) = _
 rw [hw]
theorem b_rem4 (t : TypeId) (a : Nat) : binOp .rem t (.int .i64 (a : Int)) (.int .i64 4) = pure (.int .i64 ((a % 4 : Nat) : Int)) := by
 have hy0 : ¬ ((4 : Int) = 0) := by decide
 have e : (a : Int).tmod 4 = ((a % 4 : Nat) : Int) := by rw [Int.natCast_emod]; exact Int.tmod_eq_emod_of_nonneg (by omega)
 have h0 : binOp .rem t (.int .i64 (a : Int)) (.int .i64 4) = Op.intDiv .rem .i64 (a : Int) 4 := rfl
 rw [h0]
 unfold Op.intDiv
 rw [if_neg hy0, e]
theorem b_mul (t : TypeId) (a b c : Int) (h : a * b = c) (h1 : -9223372036854775808 ≤ c) (h2 : c < 9223372036854775808) : binOp .mul t (.int .i64 a) (.int .i64 b) = pure (.int .i64 c) := by
 show (pure (Value.int .i64 (IntKind.i64.wrap (a * b))) : Sem Value) = _
 rw [h, IntWalk.i64_in _ (by omega)]
theorem b_sub (t : TypeId) (a b c : Int) (h : a - b = c) (h1 : -9223372036854775808 ≤ c) (h2 : c < 9223372036854775808) : binOp .sub t (.int .i64 a) (.int .i64 b) = pure (.int .i64 c) := by
 show (pure (Value.int .i64 (IntKind.i64.wrap (a - b))) : Sem Value) = _
 rw [h, IntWalk.i64_in _ (by omega)]
theorem o_cvt8 (x : Nat) (w : World) : (convert T32 5 (.int .u32 (x : Int))).run Tryz.prog w = .ok (.int .u8 ((x % 256 : Nat) : Int)) w := by
 have h1 : Tryz.prog.underlying T32 = some (.int .u32) := Tryz.underlying86
 have h2 : Tryz.prog.underlying 5 = some (.int .u8) := Tryz.underlying5
 have h3 : IntKind.u8.wrap (x : Int) = ((x % 256 : Nat) : Int) := by simp [IntKind.wrap, IntKind.bits, IntKind.signed]
 simp [convert, run_underlying h1, run_underlying h2, h3, go_sem]
structure L4S (w0 : World) (g12 : Nat) (l : List UInt8) (F : HProp) (iv : Value) (wr : World) : Prop where
 st : ∃ i : Nat, i ≤ 32 ∧ iv = .int .i64 (i : Int) ∧ Same w0 wr ∧ Sat wr (pts g12 (.cells (arrK .u8 32 fun j => if j < i then sumN l j else 0) TB (0, 0)) * F)
theorem exec_stB {a : Act} {o : Oper} {w : World} {x y : Operand} {ad : Addr} {z : Int} {u : Value} (ho : o.op = .store 5 x y) (hx : a.eval x = .pointer (some ad)) (hy : a.eval y = .int .u8 z) (hc : w.cell? ad = some u) (hf : w.frozen? ad = false) :
  (execOp a.eval o).run Tryz.prog w = .ok .skip (w.setCell ad (.int .u8 z)) := by
 obtain ⟨ti, hti, hts⟩ := Option.map_eq_some_iff.1 info_u8
 exact exec_store_cell ho hx hy hti hts rfl hc hf
set_option maxRecDepth 100000 in
set_option maxHeartbeats 8000000 in
theorem sum_any (bv : Value) (l : List UInt8) (hl : l.length = 35) (w : World) (hr : RowI w bv (b8 l)) (hK : TabK w) :
  Calls Tryz.prog 104 #[bv] w fun e w' => e = .returned (.agg (arrK .u8 32 (sumN l))) ∧ Below w.heap.size w w' := by
 have HK := Lib.hid (fun W (h : Below w.heap.size w W) j (hj : j < 64) => hK.below h j hj)
 have HPA := Lib.hid (fun W (h : Below w.heap.size w W) => padded_any bv l hl W (hr.below h))
 have HPL := Lib.hid (padL_len hl)
 have HSL := Lib.hid (sumS_lt l)
 have HW0 := Lib.hid (show Same w ((w.alloc (.cells zB TB)).alloc (.cells zV TV)) ∧ Sat ((w.alloc (.cells zB TB)).alloc (.cells zV TV)) (pts (w.heap.size + 1) (.cells zV TV (0, 0)) * (pts w.heap.size (.cells zB TB (0, 0)) * old w)) from
  ⟨((Same.refl w).alloc _).alloc _, by
   have h := ((Sat.old w).alloc (.cells zB TB)).alloc (.cells zV TV)
   rw [show (w.alloc (.cells zB TB)).heap.size = w.heap.size + 1 by simp] at h
   exact h⟩)
 clear hl hr hK
 go_enter Tryz.func104, Tryz.ntmps104
 go_upto_region 1 with ((with_reducible (refine wpList_alloc_zero ?_ TB ?_ _ (zeroB _) ?_)); rfl; rfl)
 go_upto_region 2 with (first
  | ((with_reducible (refine wpList_alloc_zero ?_ TV ?_ _ (zeroV _) ?_)); rfl; rfl; generalize (w.alloc (.cells zB TB)).alloc (.cells zV TV) = w1 at HW0 ⊢; rw [show (w.alloc (.cells zB TB)).heap.size = w.heap.size + 1 by simp])
  | (refine wpList_store_blk (T := TV) (old := zV) (new := arr 8 (st8 startM)) rfl rfl rfl rfl HW0.out.2 (infoV (arr_size _ _)) (by rw [arr_size]; rfl) (arr_one _ _) ?_; intro w9 h9))
 have HW1 := Lib.hid (And.intro (HW0.out.1.trans h9.out.1) h9.out.2)
 clear h9 HW0
 generalize w.heap.size + 1 = g3 at HW1 ⊢
 have HBW := Lib.hid (HW1.out.1.below_of (HW1.out.2.perm (show _ = (pts g3 (.cells (arr 8 (st8 startM)) TV (0, 0)) * pts w.heap.size (.cells zB TB (0, 0))) * old w by ac_rfl)))
 go_upto_region 3 with (go_at_call 132; refine (HPA.out w9 HBW.out).mono ?_; rintro e w2 ⟨mv, rfl, h2, h3⟩)
 have HW2 := Lib.hid (And.intro (HW1.out.1.trans h2) ((h3.of_all HW1.out.2).perm (show _ = pts g3 (.cells (arr 8 (st8 startM)) TV (0, 0)) * (pts w.heap.size (.cells zB TB (0, 0)) * (own8 mv (padL l) * old w)) by ac_rfl)))
 obtain ⟨ab, cb, rfl, -, -, hab⟩ := own8_row h3
 rw [b8_len, HPL.out] at hab HW2
 simp only [b8_len, HPL.out]
 obtain ⟨b, off, rfl, -, hcb⟩ := hab (by omega)
 have HGS := Lib.hid (show w.heap.size = w.heap.size from rfl)
 clear HW1 HBW h2 h3 HPA hab hcb
 go_wp2
 go_loopw [5] (fun tv wr => L1S w l (.slice (some ⟨b, off, none⟩) 64 cb) g3 w.heap.size tv wr) (fun tv _ => 64 - (intOf tv).toNat)
 case atStart => exact ⟨⟨HW2.out.1, .inl ⟨rfl, HW2.out.2⟩⟩⟩
 case round =>
  clear HW2
  obtain ⟨hsm, hst⟩ := hrel.st
  clear hrel
  have HSM := Lib.hid hsm
  clear hsm
  rcases hst with ⟨rfl, hst⟩ | ⟨rfl, R, hst⟩
  ·have HST := Lib.hid hst
   have hbl := HSM.out.below_of (hst.perm (show _ = (pts g3 (.cells (arr 8 (st8 startM)) TV (0, 0)) * (pts w.heap.size (.cells zB TB (0, 0)) * own8 (.slice (some ⟨b, off, none⟩) 64 cb) (padL l))) * old w by ac_rfl))
   have hrow := own8_row (hst.perm (show _ = own8 (.slice (some ⟨b, off, none⟩) 64 cb) (padL l) * (pts g3 (.cells (arr 8 (st8 startM)) TV (0, 0)) * (pts w.heap.size (.cells zB TB (0, 0)) * old w)) by ac_rfl))
   obtain ⟨ab, cp, e1, hcp, hmx, hcb⟩ := hrow
   obtain ⟨b', off', e2, -, hcell⟩ := hcb (by rw [b8_len, HPL.out]; omega)
   subst e2
   injection e1 with e1 e3 e4
   subst e4
   cases e1
   rw [b8_len, HPL.out] at hcp
   have HCE := Lib.hid (show ∀ j, j < 64 → wr.cell? ⟨b, off + j, none⟩ = some (.int .u8 ((byN (padL l) j : Nat) : Int)) from fun j hj => hcell j _ (by
    unfold b8 byN
    rw [List.getElem?_map, List.getElem?_eq_getElem (by rw [HPL.out]; exact hj)]
    rfl))
   clear hcell hcb hst e3 hmx
   have HWD := Lib.hid (words_any (byN (padL l)) (byN_lt _) b off cb wr HCE.out)
   have HB9 := Lib.hid (show padL l = padL l from rfl)
   go_upto_region 7 with (first
    | (go_at_call 133; refine HWD.out.mono ?_; rintro e w3 ⟨rfl, h3⟩; have HS3 := Lib.hid (And.intro (HSM.out.below h3) (HST.out.below h3)); have HA3 := Lib.hid (And.intro (HS3.out.1.alloc (.cells zW TW)) (HS3.out.2.alloc (.cells zW TW))); clear h3 HS3)
    | ((with_reducible (refine wpList_alloc_zero ?_ TW ?_ _ (zeroW _) ?_)); rfl; rfl; generalize w3.alloc (.cells zW TW) = w4 at HA3 ⊢; generalize w3.heap.size = g6 at HA3 ⊢)
    | (refine wpList_store_blk (T := TW) (old := zW) (new := wA (byN (padL l))) rfl rfl rfl rfl HA3.out.2 (infoW (wA_size _)) (by rw [wA_size]; simp [zW]) (wA_one _) ?_; intro w5 h5))
   have HS5 := Lib.hid (And.intro (HA3.out.1.trans h5.out.1) (h5.out.2.perm (show _ = pts g3 (.cells (arr 8 (st8 startM)) TV (0, 0)) * (pts g6 (.cells (wA (byN (padL l))) TW (0, 0)) * (pts w.heap.size (.cells zB TB (0, 0)) * (own8 (.slice (some ⟨b, off, none⟩) 64 cb) (padL l) * old w))) by ac_rfl)))
   clear h5 HA3 HWD HB9 HCE HST hcp hbl HSM
   have hblk := HS5.out.2.block
   have HA5 := Lib.hid (And.intro (HS5.out.1.alloc (.cells zV TV)) (HS5.out.2.alloc (.cells zV TV)))
   go_upto_region 8 with (first
    | ((with_reducible (apply wp_load_V hblk (arr_size _ _))); rfl; rfl; rfl)
    | ((with_reducible (refine wpList_alloc_zero ?_ TV ?_ _ (zeroV _) ?_)); rfl; rfl; clear hblk; generalize w5.alloc (.cells zV TV) = w6 at HA5 ⊢; generalize w5.heap.size = g7 at HA5 ⊢)
    | (refine wpList_store_blk (T := TV) (old := zV) (new := arr 8 (st8 startM)) rfl rfl rfl rfl HA5.out.2 (infoV (arr_size _ _)) (by rw [arr_size]; rfl) (arr_one _ _) ?_; intro w7 h7))
   have HS7 := Lib.hid (show SW w g7 g6 g3 (st8 startM) (byN (padL l)) (st8 startM) (pts w.heap.size (.cells zB TB (0, 0)) * own8 (.slice (some ⟨b, off, none⟩) 64 cb) (padL l)) w7 from
    ⟨HA5.out.1.trans h7.out.1, h7.out.2.perm (by ac_rfl)⟩)
   clear h7 HA5 HS5
   generalize hBB : byN (padL l) = B at HS7
   have HBB := Lib.hid hBB
   clear hBB
   generalize hRR : pts w.heap.size (.cells zB TB (0, 0)) * own8 (.slice (some ⟨b, off, none⟩) 64 cb) (padL l) = R at HS7
   have HRR := Lib.hid hRR
   clear hRR
   go_wp2
   go_loopw [8] (fun tv wr => L2S w g7 g6 g3 B R tv wr) (fun tv _ => 64 - (intOf tv).toNat)
   case atStart => exact ⟨⟨0, by omega, rfl, HS7.out⟩⟩
   case round =>
    clear HS7
    obtain ⟨t, ht, rfl, hW⟩ := hrel.st
    clear hrel
    have HW := Lib.hid hW
    clear hW
    by_cases htl : t < 64
    ·have htd : decide ((t : Int) < 64) = true := decide_eq_true (by omega)
     have hwt : IntKind.i64.wrap ((t : Int) + 1) = (t : Int) + 1 := IntWalk.i64_in _ (by omega)
     have HOK := Lib.hid (roundsM_ok startM_ok (wordsM B 64) t)
     have HRD := Lib.hid (wv_rounds B startM t)
     generalize roundsM (wordsM B 64) startM t = v at HW HOK HRD
     have HV0 := Lib.hid HOK.out.1
     have HV4 := Lib.hid HOK.out.2.2.2.2.1
     go_upto_region 11 with (fail)
     refine regU_begin (fun w' => SW w g7 g6 g3 (st8 v) B (st8 startM) R w') (by kernel_rfl) HW.out.drew ?_
     refine regU_take 0 (v := .pointer (some ⟨g7, 7, none⟩)) rfl rfl (by decide +kernel) rfl (fun w' h => exec_ixV (z := 7) rfl rfl rfl (by decide) (by decide)) ?_; simp only [zq1, zq2, zq3]
     refine regU_take 1 (v := .int .u32 ((v.h : Nat) : Int)) rfl rfl (by decide +kernel) rfl (fun w' h => exec_load_cell rfl rfl Tryz.underlying86 rfl (SW.c7 h (j := 7) (by decide))) ?_; simp only [zq1, zq2, zq3]
     refine regU_take 2 (v := .pointer (some ⟨g7, 4, none⟩)) rfl rfl (by decide +kernel) rfl (fun w' h => exec_ixV (z := 4) rfl rfl rfl (by decide) (by decide)) ?_; simp only [zq1, zq2, zq3]
     refine regU_take 3 (v := .int .u32 ((v.e : Nat) : Int)) rfl rfl (by decide +kernel) rfl (fun w' h => exec_load_cell rfl rfl Tryz.underlying86 rfl (SW.c7 h (j := 4) (by decide))) ?_; simp only [zq1, zq2, zq3]
     refine regU_call 4 (f := 134) (args := #[.int .u32 ((v.e : Nat) : Int), .int .i64 6]) (v := .int .u32 ((rotr v.e 6 : Nat) : Int)) rfl rfl (by decide +kernel) rfl (fun w' => by kernel_rfl) (fun w' h => (rotr_any _ HV4.out 6 6 rfl (by omega) w').mono fun e w'' h2 => ⟨h2.1, h.below h2.2⟩) ?_
     simp only [zq1, zq2, zq3]
     refine regU_take 5 (v := .pointer (some ⟨g7, 4, none⟩)) rfl rfl (by decide +kernel) rfl (fun w' h => exec_ixV (z := 4) rfl rfl rfl (by decide) (by decide)) ?_; simp only [zq1, zq2, zq3]
     refine regU_take 6 (v := .int .u32 ((v.e : Nat) : Int)) rfl rfl (by decide +kernel) rfl (fun w' h => exec_load_cell rfl rfl Tryz.underlying86 rfl (SW.c7 h (j := 4) (by decide))) ?_; simp only [zq1, zq2, zq3]
     refine regU_call 7 (f := 134) (args := #[.int .u32 ((v.e : Nat) : Int), .int .i64 11]) (v := .int .u32 ((rotr v.e 11 : Nat) : Int)) rfl rfl (by decide +kernel) rfl (fun w' => by kernel_rfl) (fun w' h => (rotr_any _ HV4.out 11 11 rfl (by omega) w').mono fun e w'' h2 => ⟨h2.1, h.below h2.2⟩) ?_
     simp only [zq1, zq2, zq3]
     (apply regU_take 8 rfl rfl (by decide +kernel) rfl); (intro w' hw'; go_simp; rfl); simp only [zq1, zq2, zq3]
     refine regU_take 9 (v := .pointer (some ⟨g7, 4, none⟩)) rfl rfl (by decide +kernel) rfl (fun w' h => exec_ixV (z := 4) rfl rfl rfl (by decide) (by decide)) ?_; simp only [zq1, zq2, zq3]
     refine regU_take 10 (v := .int .u32 ((v.e : Nat) : Int)) rfl rfl (by decide +kernel) rfl (fun w' h => exec_load_cell rfl rfl Tryz.underlying86 rfl (SW.c7 h (j := 4) (by decide))) ?_; simp only [zq1, zq2, zq3]
     refine regU_call 11 (f := 134) (args := #[.int .u32 ((v.e : Nat) : Int), .int .i64 25]) (v := .int .u32 ((rotr v.e 25 : Nat) : Int)) rfl rfl (by decide +kernel) rfl (fun w' => by kernel_rfl) (fun w' h => (rotr_any _ HV4.out 25 25 rfl (by omega) w').mono fun e w'' h2 => ⟨h2.1, h.below h2.2⟩) ?_
     simp only [zq1, zq2, zq3]
     (apply regU_take 12 rfl rfl (by decide +kernel) rfl); (intro w' hw'; go_simp; rfl); simp only [zq1, zq2, zq3]
     (apply regU_take 13 rfl rfl (by decide +kernel) rfl); (intro w' hw'; go_simp; rfl); simp only [zq1, zq2, zq3]
     refine regU_take 14 (v := .pointer (some ⟨g7, 4, none⟩)) rfl rfl (by decide +kernel) rfl (fun w' h => exec_ixV (z := 4) rfl rfl rfl (by decide) (by decide)) ?_; simp only [zq1, zq2, zq3]
     refine regU_take 15 (v := .int .u32 ((v.e : Nat) : Int)) rfl rfl (by decide +kernel) rfl (fun w' h => exec_load_cell rfl rfl Tryz.underlying86 rfl (SW.c7 h (j := 4) (by decide))) ?_; simp only [zq1, zq2, zq3]
     refine regU_take 16 (v := .pointer (some ⟨g7, 5, none⟩)) rfl rfl (by decide +kernel) rfl (fun w' h => exec_ixV (z := 5) rfl rfl rfl (by decide) (by decide)) ?_; simp only [zq1, zq2, zq3]
     refine regU_take 17 (v := .int .u32 ((v.f : Nat) : Int)) rfl rfl (by decide +kernel) rfl (fun w' h => exec_load_cell rfl rfl Tryz.underlying86 rfl (SW.c7 h (j := 5) (by decide))) ?_; simp only [zq1, zq2, zq3]
     (apply regU_take 18 rfl rfl (by decide +kernel) rfl); (intro w' hw'; go_simp; rfl); simp only [zq1, zq2, zq3]
     refine regU_take 19 (v := .pointer (some ⟨g7, 4, none⟩)) rfl rfl (by decide +kernel) rfl (fun w' h => exec_ixV (z := 4) rfl rfl rfl (by decide) (by decide)) ?_; simp only [zq1, zq2, zq3]
     refine regU_take 20 (v := .int .u32 ((v.e : Nat) : Int)) rfl rfl (by decide +kernel) rfl (fun w' h => exec_load_cell rfl rfl Tryz.underlying86 rfl (SW.c7 h (j := 4) (by decide))) ?_; simp only [zq1, zq2, zq3]
     refine regU_take 21 (v := .int .u32 ((xor32 v.e 4294967295 : Nat) : Int)) rfl rfl (by decide +kernel) rfl (fun w' h => exec_binop (vx := .int .u32 ((v.e : Nat) : Int)) (vy := .int .u32 4294967295) rfl rfl rfl rfl (by rw [show (4294967295 : Int) = ((4294967295 : Nat) : Int) from rfl, o_xor]; rfl)) ?_; simp only [zq1, zq2, zq3]
     refine regU_take 22 (v := .pointer (some ⟨g7, 6, none⟩)) rfl rfl (by decide +kernel) rfl (fun w' h => exec_ixV (z := 6) rfl rfl rfl (by decide) (by decide)) ?_; simp only [zq1, zq2, zq3]
     refine regU_take 23 (v := .int .u32 ((v.g : Nat) : Int)) rfl rfl (by decide +kernel) rfl (fun w' h => exec_load_cell rfl rfl Tryz.underlying86 rfl (SW.c7 h (j := 6) (by decide))) ?_; simp only [zq1, zq2, zq3]
     (apply regU_take 24 rfl rfl (by decide +kernel) rfl); (intro w' hw'; go_simp; rfl); simp only [zq1, zq2, zq3]
     (apply regU_take 25 rfl rfl (by decide +kernel) rfl); (intro w' hw'; go_simp; rfl); simp only [zq1, zq2, zq3]
     (apply regU_take 26 rfl rfl (by decide +kernel) rfl); (intro w' hw'; go_simp; rfl); simp only [zq1, zq2, zq3]
     (apply regU_take 27 rfl rfl (by decide +kernel) rfl); (intro w' hw'; go_simp; rfl); simp only [zq1, zq2, zq3]
     refine regU_take 28 (v := .pointer (some ⟨1, 0 + t * 1, none⟩)) rfl rfl (by decide +kernel) rfl (fun w' h => exec_ixW rfl rfl rfl (by omega)) ?_; simp only [zq1, zq2, zq3]
     refine regU_take 29 (v := .int .u32 ((kM t : Nat) : Int)) rfl rfl (by decide +kernel) rfl (fun w' h => exec_load_cell rfl rfl Tryz.underlying86 rfl (HK.out w' (SW.bel h) t (by omega))) ?_; simp only [zq1, zq2, zq3]
     (apply regU_take 30 rfl rfl (by decide +kernel) rfl); (intro w' hw'; go_simp; rfl); simp only [zq1, zq2, zq3]
     (apply regU_take 31 rfl rfl (by decide +kernel) rfl); (intro w' hw'; go_simp; rfl); simp only [zq1, zq2, zq3]
     refine regU_take 32 (v := .pointer (some ⟨g6, 0 + t * 1, none⟩)) rfl rfl (by decide +kernel) rfl (fun w' h => exec_ixW rfl rfl rfl (by omega)) ?_; simp only [zq1, zq2, zq3]
     refine regU_take 33 (v := .int .u32 ((wv B t : Nat) : Int)) rfl rfl (by decide +kernel) rfl (fun w' h => exec_load_cell rfl rfl Tryz.underlying86 rfl (SW.c6 h (by omega))) ?_; simp only [zq1, zq2, zq3]
     (apply regU_take 34 rfl rfl (by decide +kernel) rfl); (intro w' hw'; go_simp; rfl); simp only [zq1, zq2, zq3]
     (apply regU_take 35 rfl rfl (by decide +kernel) rfl); (intro w' hw'; go_simp; rfl); simp only [zq1, zq2, zq3]
     refine regU_done (by decide +kernel) ?_
     intro w8 h8
     have HW8 := Lib.hid h8
     clear h8 HW
     go_upto_region 12 with (fail)
     refine regU_begin (fun w' => SW w g7 g6 g3 (st8 v) B (st8 startM) R w') (by kernel_rfl) HW8.out.drew ?_
     refine regU_take 0 (v := .pointer (some ⟨g7, 0, none⟩)) rfl rfl (by decide +kernel) rfl (fun w' h => exec_ixV (z := 0) rfl rfl rfl (by decide) (by decide)) ?_; simp only [zq1, zq2, zq3]
     refine regU_take 1 (v := .int .u32 ((v.a : Nat) : Int)) rfl rfl (by decide +kernel) rfl (fun w' h => exec_load_cell rfl rfl Tryz.underlying86 rfl (SW.c7 h (j := 0) (by decide))) ?_; simp only [zq1, zq2, zq3]
     refine regU_call 2 (f := 134) (args := #[.int .u32 ((v.a : Nat) : Int), .int .i64 2]) (v := .int .u32 ((rotr v.a 2 : Nat) : Int)) rfl rfl (by decide +kernel) rfl (fun w' => by kernel_rfl) (fun w' h => (rotr_any _ HV0.out 2 2 rfl (by omega) w').mono fun e w'' h2 => ⟨h2.1, h.below h2.2⟩) ?_
     simp only [zq1, zq2, zq3]
     refine regU_take 3 (v := .pointer (some ⟨g7, 0, none⟩)) rfl rfl (by decide +kernel) rfl (fun w' h => exec_ixV (z := 0) rfl rfl rfl (by decide) (by decide)) ?_; simp only [zq1, zq2, zq3]
     refine regU_take 4 (v := .int .u32 ((v.a : Nat) : Int)) rfl rfl (by decide +kernel) rfl (fun w' h => exec_load_cell rfl rfl Tryz.underlying86 rfl (SW.c7 h (j := 0) (by decide))) ?_; simp only [zq1, zq2, zq3]
     refine regU_call 5 (f := 134) (args := #[.int .u32 ((v.a : Nat) : Int), .int .i64 13]) (v := .int .u32 ((rotr v.a 13 : Nat) : Int)) rfl rfl (by decide +kernel) rfl (fun w' => by kernel_rfl) (fun w' h => (rotr_any _ HV0.out 13 13 rfl (by omega) w').mono fun e w'' h2 => ⟨h2.1, h.below h2.2⟩) ?_
     simp only [zq1, zq2, zq3]
     (apply regU_take 6 rfl rfl (by decide +kernel) rfl); (intro w' hw'; go_simp; rfl); simp only [zq1, zq2, zq3]
     refine regU_take 7 (v := .pointer (some ⟨g7, 0, none⟩)) rfl rfl (by decide +kernel) rfl (fun w' h => exec_ixV (z := 0) rfl rfl rfl (by decide) (by decide)) ?_; simp only [zq1, zq2, zq3]
     refine regU_take 8 (v := .int .u32 ((v.a : Nat) : Int)) rfl rfl (by decide +kernel) rfl (fun w' h => exec_load_cell rfl rfl Tryz.underlying86 rfl (SW.c7 h (j := 0) (by decide))) ?_; simp only [zq1, zq2, zq3]
     refine regU_call 9 (f := 134) (args := #[.int .u32 ((v.a : Nat) : Int), .int .i64 22]) (v := .int .u32 ((rotr v.a 22 : Nat) : Int)) rfl rfl (by decide +kernel) rfl (fun w' => by kernel_rfl) (fun w' h => (rotr_any _ HV0.out 22 22 rfl (by omega) w').mono fun e w'' h2 => ⟨h2.1, h.below h2.2⟩) ?_
     simp only [zq1, zq2, zq3]
     (apply regU_take 10 rfl rfl (by decide +kernel) rfl); (intro w' hw'; go_simp; rfl); simp only [zq1, zq2, zq3]
     refine regU_take 11 (v := .pointer (some ⟨g7, 0, none⟩)) rfl rfl (by decide +kernel) rfl (fun w' h => exec_ixV (z := 0) rfl rfl rfl (by decide) (by decide)) ?_; simp only [zq1, zq2, zq3]
     refine regU_take 12 (v := .int .u32 ((v.a : Nat) : Int)) rfl rfl (by decide +kernel) rfl (fun w' h => exec_load_cell rfl rfl Tryz.underlying86 rfl (SW.c7 h (j := 0) (by decide))) ?_; simp only [zq1, zq2, zq3]
     refine regU_take 13 (v := .pointer (some ⟨g7, 1, none⟩)) rfl rfl (by decide +kernel) rfl (fun w' h => exec_ixV (z := 1) rfl rfl rfl (by decide) (by decide)) ?_; simp only [zq1, zq2, zq3]
     refine regU_take 14 (v := .int .u32 ((v.b : Nat) : Int)) rfl rfl (by decide +kernel) rfl (fun w' h => exec_load_cell rfl rfl Tryz.underlying86 rfl (SW.c7 h (j := 1) (by decide))) ?_; simp only [zq1, zq2, zq3]
     (apply regU_take 15 rfl rfl (by decide +kernel) rfl); (intro w' hw'; go_simp; rfl); simp only [zq1, zq2, zq3]
     refine regU_take 16 (v := .pointer (some ⟨g7, 0, none⟩)) rfl rfl (by decide +kernel) rfl (fun w' h => exec_ixV (z := 0) rfl rfl rfl (by decide) (by decide)) ?_; simp only [zq1, zq2, zq3]
     refine regU_take 17 (v := .int .u32 ((v.a : Nat) : Int)) rfl rfl (by decide +kernel) rfl (fun w' h => exec_load_cell rfl rfl Tryz.underlying86 rfl (SW.c7 h (j := 0) (by decide))) ?_; simp only [zq1, zq2, zq3]
     refine regU_take 18 (v := .pointer (some ⟨g7, 2, none⟩)) rfl rfl (by decide +kernel) rfl (fun w' h => exec_ixV (z := 2) rfl rfl rfl (by decide) (by decide)) ?_; simp only [zq1, zq2, zq3]
     refine regU_take 19 (v := .int .u32 ((v.c : Nat) : Int)) rfl rfl (by decide +kernel) rfl (fun w' h => exec_load_cell rfl rfl Tryz.underlying86 rfl (SW.c7 h (j := 2) (by decide))) ?_; simp only [zq1, zq2, zq3]
     (apply regU_take 20 rfl rfl (by decide +kernel) rfl); (intro w' hw'; go_simp; rfl); simp only [zq1, zq2, zq3]
     (apply regU_take 21 rfl rfl (by decide +kernel) rfl); (intro w' hw'; go_simp; rfl); simp only [zq1, zq2, zq3]
     refine regU_take 22 (v := .pointer (some ⟨g7, 1, none⟩)) rfl rfl (by decide +kernel) rfl (fun w' h => exec_ixV (z := 1) rfl rfl rfl (by decide) (by decide)) ?_; simp only [zq1, zq2, zq3]
     refine regU_take 23 (v := .int .u32 ((v.b : Nat) : Int)) rfl rfl (by decide +kernel) rfl (fun w' h => exec_load_cell rfl rfl Tryz.underlying86 rfl (SW.c7 h (j := 1) (by decide))) ?_; simp only [zq1, zq2, zq3]
     refine regU_take 24 (v := .pointer (some ⟨g7, 2, none⟩)) rfl rfl (by decide +kernel) rfl (fun w' h => exec_ixV (z := 2) rfl rfl rfl (by decide) (by decide)) ?_; simp only [zq1, zq2, zq3]
     refine regU_take 25 (v := .int .u32 ((v.c : Nat) : Int)) rfl rfl (by decide +kernel) rfl (fun w' h => exec_load_cell rfl rfl Tryz.underlying86 rfl (SW.c7 h (j := 2) (by decide))) ?_; simp only [zq1, zq2, zq3]
     (apply regU_take 26 rfl rfl (by decide +kernel) rfl); (intro w' hw'; go_simp; rfl); simp only [zq1, zq2, zq3]
     (apply regU_take 27 rfl rfl (by decide +kernel) rfl); (intro w' hw'; go_simp; rfl); simp only [zq1, zq2, zq3]
     (apply regU_take 28 rfl rfl (by decide +kernel) rfl); (intro w' hw'; go_simp; rfl); simp only [zq1, zq2, zq3]
     (apply regU_take 29 rfl rfl (by decide +kernel) rfl); (intro w' hw'; go_simp; rfl); simp only [zq1, zq2, zq3]
     refine regU_done (by decide +kernel) ?_
     intro w9 h9
     have HW9 := Lib.hid h9
     clear h9 HW8
     have HBE := Lib.hid (show bigE v (kM t) (wv B t) = add32 (add32 (add32 (add32 v.h (xor32 (xor32 (rotr v.e 6) (rotr v.e 11)) (rotr v.e 25))) (xor32 (and32 v.e v.f) (and32 (xor32 v.e 4294967295) v.g))) (kM t)) (wv B t) from rfl)
     have HBA := Lib.hid (show bigA v = add32 (xor32 (xor32 (rotr v.a 2) (rotr v.a 13)) (rotr v.a 22)) (xor32 (xor32 (and32 v.a v.b) (and32 v.a v.c)) (and32 v.b v.c)) from rfl)
     rw [← HBE.out, ← HBA.out]
     clear HBE HBA
     have HRM := Lib.hid (show Value.agg (arr 8 (st8 (roundM v (kM t) (wv B t)))) = .agg #[.int .u32 ((add32 (bigE v (kM t) (wv B t)) (bigA v) : Nat) : Int), .int .u32 ((st8 v 0 : Nat) : Int), .int .u32 ((st8 v 1 : Nat) : Int), .int .u32 ((st8 v 2 : Nat) : Int), .int .u32 ((add32 (st8 v 3) (bigE v (kM t) (wv B t)) : Nat) : Int), .int .u32 ((st8 v 4 : Nat) : Int), .int .u32 ((st8 v 5 : Nat) : Int), .int .u32 ((st8 v 6 : Nat) : Int)] from rfl)
     generalize bigE v (kM t) (wv B t) = x at HRM ⊢
     generalize bigA v = y at HRM ⊢
     go_upto_region 13 with (fail)
     refine wp_region_lit ?_
     (apply wpList_run rfl); (go_simp; first | rfl | exact ⟨rfl, rfl⟩); simp only [Act.put, zq1, zq2, zq3]
     (apply wpList_run rfl); (go_simp; first | rfl | exact ⟨rfl, rfl⟩); simp only [Act.put, zq1, zq2, zq3]
     (apply wpList_run rfl); (go_simp; first | rfl | exact ⟨rfl, rfl⟩); simp only [Act.put, zq1, zq2, zq3]
     refine wpList_run (v := .pointer (some ⟨g7, 0, none⟩)) rfl (exec_ixV (z := 0) rfl rfl rfl (by decide) (by decide)) ?_; simp only [Act.put, zq1, zq2, zq3]
     refine wpList_run (v := .int .u32 ((st8 v 0 : Nat) : Int)) rfl (exec_load_cell rfl rfl Tryz.underlying86 rfl (SW.c7 HW9.out (j := 0) (by decide))) ?_; simp only [Act.put, zq1, zq2, zq3]
     refine wpList_run (v := .pointer (some ⟨g7, 1, none⟩)) rfl (exec_ixV (z := 1) rfl rfl rfl (by decide) (by decide)) ?_; simp only [Act.put, zq1, zq2, zq3]
     refine wpList_run (v := .int .u32 ((st8 v 1 : Nat) : Int)) rfl (exec_load_cell rfl rfl Tryz.underlying86 rfl (SW.c7 HW9.out (j := 1) (by decide))) ?_; simp only [Act.put, zq1, zq2, zq3]
     refine wpList_run (v := .pointer (some ⟨g7, 2, none⟩)) rfl (exec_ixV (z := 2) rfl rfl rfl (by decide) (by decide)) ?_; simp only [Act.put, zq1, zq2, zq3]
     refine wpList_run (v := .int .u32 ((st8 v 2 : Nat) : Int)) rfl (exec_load_cell rfl rfl Tryz.underlying86 rfl (SW.c7 HW9.out (j := 2) (by decide))) ?_; simp only [Act.put, zq1, zq2, zq3]
     refine wpList_run (v := .pointer (some ⟨g7, 3, none⟩)) rfl (exec_ixV (z := 3) rfl rfl rfl (by decide) (by decide)) ?_; simp only [Act.put, zq1, zq2, zq3]
     refine wpList_run (v := .int .u32 ((st8 v 3 : Nat) : Int)) rfl (exec_load_cell rfl rfl Tryz.underlying86 rfl (SW.c7 HW9.out (j := 3) (by decide))) ?_; simp only [Act.put, zq1, zq2, zq3]
     (apply wpList_run rfl); (go_simp; first | rfl | exact ⟨rfl, rfl⟩); simp only [Act.put, zq1, zq2, zq3]
     (apply wpList_run rfl); (go_simp; first | rfl | exact ⟨rfl, rfl⟩); simp only [Act.put, zq1, zq2, zq3]
     refine wpList_run (v := .pointer (some ⟨g7, 4, none⟩)) rfl (exec_ixV (z := 4) rfl rfl rfl (by decide) (by decide)) ?_; simp only [Act.put, zq1, zq2, zq3]
     refine wpList_run (v := .int .u32 ((st8 v 4 : Nat) : Int)) rfl (exec_load_cell rfl rfl Tryz.underlying86 rfl (SW.c7 HW9.out (j := 4) (by decide))) ?_; simp only [Act.put, zq1, zq2, zq3]
     refine wpList_run (v := .pointer (some ⟨g7, 5, none⟩)) rfl (exec_ixV (z := 5) rfl rfl rfl (by decide) (by decide)) ?_; simp only [Act.put, zq1, zq2, zq3]
     refine wpList_run (v := .int .u32 ((st8 v 5 : Nat) : Int)) rfl (exec_load_cell rfl rfl Tryz.underlying86 rfl (SW.c7 HW9.out (j := 5) (by decide))) ?_; simp only [Act.put, zq1, zq2, zq3]
     refine wpList_run (v := .pointer (some ⟨g7, 6, none⟩)) rfl (exec_ixV (z := 6) rfl rfl rfl (by decide) (by decide)) ?_; simp only [Act.put, zq1, zq2, zq3]
     refine wpList_run (v := .int .u32 ((st8 v 6 : Nat) : Int)) rfl (exec_load_cell rfl rfl Tryz.underlying86 rfl (SW.c7 HW9.out (j := 6) (by decide))) ?_; simp only [Act.put, zq1, zq2, zq3]
     (apply wpList_run rfl); (go_simp; first | rfl | exact ⟨rfl, rfl⟩); simp only [Act.put, zq1, zq2, zq3]
     refine wpList_store_blk (T := TV) (old := arr 8 (st8 v)) (new := arr 8 (st8 (roundM v (kM t) (wv B t)))) rfl rfl rfl HRM.out.symm HW9.out.sat (infoV (arr_size _ _)) (by rw [arr_size, arr_size]) (arr_one _ _) ?_
     intro w10 h10
     have HS10 := Lib.hid (show SW w g7 g6 g3 (st8 (roundM v (kM t) (wv B t))) B (st8 startM) R w10 from ⟨HW9.out.same.trans h10.out.1, h10.out.2⟩)
     clear h10 HW9 HRM HV0 HV4 HOK
     refine wpList_nil ?_
     go_wp2
     go_roundw
     case rel => exact ⟨⟨t + 1, by omega, rfl, by rw [HRD.out]; exact HS10.out⟩⟩
     case measure => show 64 - ((t : Int) + 1).toNat < 64 - (t : Int).toNat; omega
    ·have hte : t = 64 := by omega
     have htd : decide ((t : Int) < 64) = false := decide_eq_false (by omega)
     subst hte
     have HFN := Lib.hid (show ∀ j, add32 (st8 startM j) (st8 (roundsM (wordsM B 64) startM 64) j) = sumS l j from fun j => by unfold sumS blockM; rw [HBB.out, st8_plus])
     generalize st8 (roundsM (wordsM B 64) startM 64) = s7 at HW HFN
     generalize st8 startM = s30 at HW HFN
     go_wp2
     obtain ⟨wo, rfl⟩ : ∃ wo : World, wo = wr := ⟨_, rfl⟩
     go_loopw [11] (fun tv wr => L3S w g7 g6 g3 s7 B s30 R tv wr) (fun tv _ => 8 - (intOf tv).toNat)
     case atStart => exact ⟨⟨0, by omega, rfl, by rw [show (fun j => if j < 0 then add32 (s30 j) (s7 j) else s30 j) = s30 from funext fun j => if_neg (by omega)]; exact HW.out⟩⟩
     case round =>
      clear HW
      obtain ⟨i, hi, rfl, hW⟩ := hrel.st
      clear hrel
      have HW := Lib.hid hW
      clear hW
      by_cases hil : i < 8
      ·have htd : decide ((i : Int) < 8) = true := decide_eq_true (by omega)
       have hwt : IntKind.i64.wrap ((i : Int) + 1) = (i : Int) + 1 := IntWalk.i64_in _ (by omega)
       have HFE := Lib.hid (show (fun j => if j = i then add32 ((fun j => if j < i then add32 (s30 j) (s7 j) else s30 j) i) (s7 i) else (fun j => if j < i then add32 (s30 j) (s7 j) else s30 j) j) = fun j => if j < i + 1 then add32 (s30 j) (s7 j) else s30 j from funext fun j => by
        by_cases e : j = i
        ·subst e; rw [if_pos rfl, if_pos (by omega)]; dsimp only; rw [if_neg (by omega)]
        ·rw [if_neg e]
         by_cases e2 : j < i
         ·rw [if_pos (by omega)]; dsimp only; rw [if_pos e2]
         ·rw [if_neg (by omega)]; dsimp only; rw [if_neg e2])
       generalize (fun j => if j < i then add32 (s30 j) (s7 j) else s30 j) = s3 at HW HFE
       go_upto_region 17 with (fail)
       refine regU_begin (fun w' => SW w g7 g6 g3 s7 B s3 R w') (by kernel_rfl) HW.out.drew ?_
       (apply regU_take 0 rfl rfl (by decide +kernel) rfl); (intro w' hw'; go_simp; rfl); simp only [zq1, zq2, zq3]
       (apply regU_take 1 rfl rfl (by decide +kernel) rfl); (intro w' hw'; go_simp; rfl); simp only [zq1, zq2, zq3]
       refine regU_take 2 (v := .pointer (some ⟨g3, 0 + i, none⟩)) rfl rfl (by decide +kernel) rfl (fun w' h => exec_ixN rfl rfl rfl (by omega)) ?_; simp only [zq1, zq2, zq3]
       refine regU_take 3 (v := .int .u32 ((s3 i : Nat) : Int)) rfl rfl (by decide +kernel) rfl (fun w' h => exec_load_cell rfl rfl Tryz.underlying86 rfl (SW.c3n h (by omega))) ?_; simp only [zq1, zq2, zq3]
       (apply regU_take 4 rfl rfl (by decide +kernel) rfl); (intro w' hw'; go_simp; rfl); simp only [zq1, zq2, zq3]
       refine regU_take 5 (v := .pointer (some ⟨g7, 0 + i, none⟩)) rfl rfl (by decide +kernel) rfl (fun w' h => exec_ixN rfl rfl rfl (by omega)) ?_; simp only [zq1, zq2, zq3]
       refine regU_take 6 (v := .int .u32 ((s7 i : Nat) : Int)) rfl rfl (by decide +kernel) rfl (fun w' h => exec_load_cell rfl rfl Tryz.underlying86 rfl (SW.c7n h (by omega))) ?_; simp only [zq1, zq2, zq3]
       (apply regU_take 7 rfl rfl (by decide +kernel) rfl); (intro w' hw'; go_simp; rfl); simp only [zq1, zq2, zq3]
       refine regU_take 8 (v := .pointer (some ⟨g3, 0 + i, none⟩)) rfl rfl (by decide +kernel) rfl (fun w' h => exec_ixN rfl rfl rfl (by omega)) ?_; simp only [zq1, zq2, zq3]
       refine regU_alone (S' := fun _ => True) 9 (by decide +kernel) ?_
       intro w8 h8
       have HF9 := Lib.hid (HFE.out ▸ h8.set3 i (add32 (s3 i) (s7 i)))
       have c8 := h8.c3n hil
       have f8 := h8.free3 i
       refine reg_do_last 9 (w8.setCell ⟨g3, 0 + i, none⟩ (.int .u32 ((add32 (s3 i) (s7 i) : Nat) : Int))) rfl rfl (by decide +kernel) rfl (exec_stU rfl rfl rfl c8 f8) ?_
       generalize w8.setCell ⟨g3, 0 + i, none⟩ (.int .u32 ((add32 (s3 i) (s7 i) : Nat) : Int)) = w9 at *
       clear h8 c8 f8 HW
       go_wp2
       go_roundw
       case rel => exact ⟨⟨i + 1, by omega, rfl, HF9.out⟩⟩
       case measure => show 8 - ((i : Int) + 1).toNat < 8 - (i : Int).toNat; omega
      ·have hte : i = 8 := by omega
       have htd : decide ((i : Int) < 8) = false := decide_eq_false (by omega)
       subst hte
       have HLS := Lib.hid (show L1S w l (.slice (some ⟨b, off, none⟩) 64 cb) g3 w.heap.size (.int .i64 64) wr from ⟨HW.out.same, .inr ⟨rfl, pts g7 (.cells (arr 8 s7) TV (0, 0)) * (pts g6 (.cells (wA B) TW (0, 0)) * own8 (.slice (some ⟨b, off, none⟩) 64 cb) (padL l)), by
        have h := HW.out.sat
        rw [show arr 8 (fun j => if j < 8 then add32 (s30 j) (s7 j) else s30 j) = arr 8 (sumS l) from arrK_congr fun j hj => by rw [if_pos hj]; exact HFN.out j, ← HRR.out] at h
        exact h.perm (by ac_rfl)⟩⟩)
       go_wp2
       go_roundw
       case rel => exact HLS.out
       case measure => decide
  ·have HS := Lib.hid (And.intro HSM.out hst)
   clear hst HSM
   have HA := Lib.hid (And.intro (HS.out.1.alloc (.cells zB TB)) (HS.out.2.alloc (.cells zB TB)))
   clear HS
   go_upto_region 19 with ((with_reducible (refine wpList_alloc_zero ?_ TB ?_ _ (zeroB _) ?_)); rfl; rfl)
   generalize wr.alloc (.cells zB TB) = w5 at HA ⊢
   generalize wr.heap.size = g12 at HA ⊢
   generalize hF : pts g3 (.cells (arr 8 (sumS l)) TV (0, 0)) * (pts w.heap.size (.cells zB TB (0, 0)) * (R * old w)) = F at HA
   have HF := Lib.hid hF
   clear hF
   have HZ := Lib.hid (show arrK .u8 32 (fun j => if j < 0 then sumN l j else 0) = zB from by rw [zB_arr]; exact arrK_congr fun j _ => if_neg (by omega))
   go_wp2
   go_loopw [13] (fun tv wr => L4S w g12 l F tv wr) (fun tv _ => 32 - (intOf tv).toNat)
   case atStart => exact ⟨⟨0, by omega, rfl, HA.out.1, by rw [HZ.out]; exact HA.out.2⟩⟩
   case round =>
    clear HA HZ
    obtain ⟨i, hi, rfl, hsm, hst⟩ := hrel.st
    clear hrel
    have HST := Lib.hid hst
    have HSM := Lib.hid hsm
    clear hst hsm
    by_cases hil : i < 32
    ·have htd : decide ((i : Int) < 32) = true := decide_eq_true (by omega)
     have hwt : IntKind.i64.wrap ((i : Int) + 1) = (i : Int) + 1 := IntWalk.i64_in _ (by omega)
     go_upto_region 22 with (fail)
     have h3 : Sat wr (pts g3 (.cells (arr 8 (sumS l)) TV (0, 0)) * (pts g12 (.cells (arrK .u8 32 fun j => if j < i then sumN l j else 0) TB (0, 0)) * (pts w.heap.size (.cells zB TB (0, 0)) * (R * old w)))) := by
      have h := HST.out
      rw [← HF.out] at h
      exact h.perm (by ac_rfl)
     have HC3 : wr.cell? ⟨g3, 0 + i / 4, none⟩ = some (.int .u32 ((sumS l (i / 4) : Nat) : Int)) := by rw [cells_at h3.block, Nat.zero_add]; exact arr_at 8 _ (by omega)
     clear h3
     refine wp_region_lit ?_
     (apply wpList_run rfl); (go_simp; first | rfl | exact ⟨rfl, rfl⟩); simp only [Act.put, zq1, zq2, zq3]
     (apply wpList_run rfl); (go_simp; first | rfl | exact ⟨rfl, rfl⟩); simp only [Act.put, zq1, zq2, zq3]
     refine wpList_run (v := .int .i64 ((i / 4 : Nat) : Int)) rfl (exec_binop (vx := .int .i64 (i : Int)) (vy := .int .i64 4) rfl rfl rfl rfl (by rw [b_quo4 _ _ (by omega)]; rfl)) ?_; simp only [Act.put, zq1, zq2, zq3]
     refine wpList_run (v := .pointer (some ⟨g3, 0 + i / 4, none⟩)) rfl (exec_ixN rfl rfl rfl (by omega)) ?_; simp only [Act.put, zq1, zq2, zq3]
     refine wpList_run (v := .int .u32 ((sumS l (i / 4) : Nat) : Int)) rfl (exec_load_cell rfl rfl Tryz.underlying86 rfl HC3) ?_; simp only [Act.put, zq1, zq2, zq3]
     (apply wpList_run rfl); (go_simp; first | rfl | exact ⟨rfl, rfl⟩); simp only [Act.put, zq1, zq2, zq3]
     refine wpList_run (v := .int .i64 ((i % 4 : Nat) : Int)) rfl (exec_binop (vx := .int .i64 (i : Int)) (vy := .int .i64 4) rfl rfl rfl rfl (by rw [b_rem4]; rfl)) ?_; simp only [Act.put, zq1, zq2, zq3]
     refine wpList_run (v := .int .i64 ((8 * (i % 4) : Nat) : Int)) rfl (exec_binop (vx := .int .i64 8) (vy := .int .i64 ((i % 4 : Nat) : Int)) rfl rfl rfl rfl (by rw [b_mul _ 8 _ ((8 * (i % 4) : Nat) : Int) (by omega) (by omega) (by omega)]; rfl)) ?_; simp only [Act.put, zq1, zq2, zq3]
     refine wpList_run (v := .int .i64 ((24 - 8 * (i % 4) : Nat) : Int)) rfl (exec_binop (vx := .int .i64 24) (vy := .int .i64 ((8 * (i % 4) : Nat) : Int)) rfl rfl rfl rfl (by rw [b_sub _ 24 _ ((24 - 8 * (i % 4) : Nat) : Int) (by omega) (by omega) (by omega)]; rfl)) ?_; simp only [Act.put, zq1, zq2, zq3]
     refine wpList_run (v := .int .u32 ((shr32 (sumS l (i / 4)) (24 - 8 * (i % 4)) : Nat) : Int)) rfl (exec_binop (vx := .int .u32 ((sumS l (i / 4) : Nat) : Int)) (vy := .int .i64 ((24 - 8 * (i % 4) : Nat) : Int)) rfl rfl rfl rfl (by rw [o_shr _ _ _ _ (by omega) (by omega) (HSL.out _)]; rfl)) ?_; simp only [Act.put, zq1, zq2, zq3]
     refine wpList_run (v := .int .u8 ((sumN l i : Nat) : Int)) rfl (exec_convert rfl rfl (o_cvt8 _ _)) ?_; simp only [Act.put, zq1, zq2, zq3]
     refine wpList_run (v := .pointer (some ⟨g12, i, none⟩)) rfl (exec_ixB rfl rfl rfl (by omega)) ?_; simp only [Act.put, zq1, zq2, zq3]
     refine wpList_do rfl (exec_stB rfl rfl rfl (by rw [cells_at HST.out.block]; exact arrK_at .u8 32 _ hil) (thawed_at HST.out.block _)) ?_
     have h9 := HST.out.setCell (i := i) (.int .u8 ((sumN l i : Nat) : Int))
     rw [arrK_set] at h9
     rw [show (fun j => if j = i then sumN l i else if j < i then sumN l j else 0) = fun j => if j < i + 1 then sumN l j else 0 from funext fun j => by
      by_cases e : j = i
      ·subst e; rw [if_pos rfl, if_pos (by omega)]
      ·rw [if_neg e]
       by_cases e2 : j < i
       ·rw [if_pos e2, if_pos (by omega)]
       ·rw [if_neg e2, if_neg (by omega)]] at h9
     have HS9 := Lib.hid (And.intro (HSM.out.setCell ⟨g12, i, none⟩ (.int .u8 ((sumN l i : Nat) : Int))) h9)
     clear h9 HC3
     generalize wr.setCell ⟨g12, i, none⟩ (.int .u8 ((sumN l i : Nat) : Int)) = w9 at HS9 ⊢
     refine wpList_nil ?_
     go_wp2
     go_roundw
     case rel => exact ⟨⟨i + 1, by omega, rfl, HS9.out⟩⟩
     case measure => show 32 - ((i : Int) + 1).toNat < 32 - (i : Int).toNat; omega
    ·have hte : i = 32 := by omega
     have htd : decide ((i : Int) < 32) = false := decide_eq_false (by omega)
     subst hte
     have HB := Lib.hid (show Sat wr (pts w.heap.size (.cells zB TB (0, 0)) * (pts g12 (.cells (arrK .u8 32 (sumN l)) TB (0, 0)) * (pts g3 (.cells (arr 8 (sumS l)) TV (0, 0)) * (R * old w)))) from by
      have h := HST.out
      rw [← HF.out, show (arrK .u8 32 fun j => if j < 32 then sumN l j else 0) = arrK .u8 32 (sumN l) from arrK_congr fun j hj => if_pos hj] at h
      exact h.perm (by ac_rfl))
     have hblk : wr.heap[g12]? = some (.cells (arrK .u8 32 (sumN l)) TB (0, 0)) := (HB.out.perm (show _ = pts g12 (.cells (arrK .u8 32 (sumN l)) TB (0, 0)) * (pts w.heap.size (.cells zB TB (0, 0)) * (pts g3 (.cells (arr 8 (sumS l)) TV (0, 0)) * (R * old w))) by ac_rfl)).block
     clear HST
     go_wp2_with (first
      | ((with_reducible (apply wp_load_B hblk (arrK_size _ _ _))); rfl; rfl; rfl)
      | (refine wpList_store_blk (T := TB) (old := zB) (new := arrK .u8 32 (sumN l)) rfl rfl rfl rfl HB.out (infoB (arrK_size _ _ _)) (by rw [arrK_size]; rfl) (arrK_one _ _ _) ?_; intro w9 h9))
     have hblk2 := h9.out.2.block
     refine bodyPost_ret (v := .agg (arrK .u8 32 (sumN l))) ?_ rfl ⟨rfl, (HSM.out.trans h9.out.1).below_of (h9.out.2.perm (show _ = (pts w.heap.size (.cells (arrK .u8 32 (sumN l)) TB (0, 0)) * (pts g12 (.cells (arrK .u8 32 (sumN l)) TB (0, 0)) * (pts g3 (.cells (arr 8 (sumS l)) TV (0, 0)) * R))) * old w by ac_rfl))⟩
     exact results_cell_row Tryz.results104 _ _ w.heap.size TB (arrK .u8 32 (sumN l)) (0, 0) _ rfl hblk2 Tryz.underlying181 rfl (infoB (arrK_size _ _ _))
end Go.Proofs.YteikbikopgabjaaGreatDoor
