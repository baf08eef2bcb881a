import Derived.Test.YteikbikopgabjaaGreatDoorH26
/- Part 27 of a proof; the last part says what is proved. -/
namespace Go.GF
open Go Go.RowKit
structure CodeAt (w : World) (cv : Array Value) (c : CodeM) : Prop where
 at_ : ∃ nm pv dom, cv = codeV nm (c.m : Int) (c.k : Int) pv dom ∧ RowsI w pv (c.par.map natsI)
 ok : c.Ok
 n32 : c.n ≤ 32
 val : validE (c.m : Int) (c.k : Int) (c.par.map natsI) = true
theorem CodeAt.below {w w' : World} {cv : Array Value} {c : CodeM} (h : CodeAt w cv c) (hb : Below w.heap.size w w') : CodeAt w' cv c := by
 obtain ⟨⟨nm, pv, dom, h1, h2⟩, h3, h4, h5⟩ := h
 exact ⟨⟨nm, pv, dom, h1, h2.below hb⟩, h3, h4, h5⟩
end Go.GF
namespace Go.Proofs.YteikbikopgabjaaGreatDoor
open Go.RowKit Go.GF Go.Sl
theorem RowsI.shape {w : World} {pv : Value} {L : List (List Int)} (h : RowsI w pv L) : ∃ ao cp, pv = .slice ao L.length cp := by
 obtain ⟨rvs, ⟨ao, cp, rfl, -⟩, hl, -⟩ := h
 exact ⟨ao, cp, by rw [hl]⟩
set_option maxRecDepth 20000 in
theorem width_any (cv : Array Value) (c : CodeM) (w : World) (hT : TabF w) (hc : CodeAt w cv c) :
  Calls Tryz.prog 40 #[.agg cv] w fun e w' => e = .returned (.int .i64 ((c.n : Nat) : Int)) ∧ Below w.heap.size w w' := by
 obtain ⟨⟨nm, pv, dom, rfl, hp⟩, hok, h32, hval⟩ := hc
 have HV := Lib.hid (fun t => evalid_any nm c.m c.k pv dom (c.par.map natsI) (w.alloc (.cells (codeV nm c.m c.k pv dom) t)) (hT.below (al_below w _)) (hp.below (al_below w _)) (by unfold CodeM.n at h32; omega))
 rw [hval] at HV
 have HB := Lib.hid (fun t w1 h => code_box w w1 (codeV nm c.m c.k pv dom) t h)
 obtain ⟨ao, cp, rfl⟩ := RowsI.shape hp
 rw [List.length_map] at *
 unfold CodeM.n at *
 have hw : IntKind.i64.wrap ((c.k : Int) + (c.par.length : Int)) = ((c.k + c.par.length : Nat) : Int) := by
  rw [show (c.k : Int) + (c.par.length : Int) = ((c.k + c.par.length : Nat) : Int) by simp]; exact wrap_nat (by omega)
 generalize c.k + c.par.length = N at *
 clear hp hT hval h32 hok
 unfold codeV at *
 go_enter Tryz.func40, Tryz.ntmps40
 go_wp2_with (go_at_call 66; refine (HV.out _).mono ?_; rintro e w1 ⟨rfl, h1⟩; obtain ⟨hg, hb⟩ := HB.out _ w1 h1; obtain ⟨c0, c1, c2, c3, -⟩ := Box.code (nm := nm) (dom := dom) hg)
 go_ret
 exact ⟨rfl, hb⟩
-- FORK
structure GnF (w1 : World) (n : Nat) (g1 gG : Option Nat) (w : World) : Prop where
 bl : Below w1.heap.size w1 w
 c1 : ∀ g, g1 = some g → w1.heap.size ≤ g ∧ w.heap[g]? = some (.cells (zeroA n) TI (0, 0))
 cG : ∀ g, gG = some g → w1.heap.size ≤ g ∧ w.heap[g]? = some (.cells zmatV TM (0, 0))
 ne : ∀ g g', g1 = some g → gG = some g' → g ≠ g'
theorem GnF.call {w1 w w' : World} {n : Nat} {g1 gG : Option Nat} (h : GnF w1 n g1 gG w) (hb : Below w.heap.size w w') : GnF w1 n g1 gG w' :=
 ⟨h.bl.trans (hb.mono h.bl.size), fun g hg => ⟨(h.c1 g hg).1, (hb.block g (by have := (h.c1 g hg).2; exact (Array.getElem?_eq_some_iff.1 this).1)).trans (h.c1 g hg).2⟩,
  fun g hg => ⟨(h.cG g hg).1, (hb.block g (by have := (h.cG g hg).2; exact (Array.getElem?_eq_some_iff.1 this).1)).trans (h.cG g hg).2⟩, h.ne⟩
theorem GnF.mk1 {w1 w : World} {n : Nat} {gG : Option Nat} (h : GnF w1 n none gG w) : GnF w1 n (some w.heap.size) gG (w.alloc (.cells (zeroA n) TI)) := by
 have hc := h.call (al_below w (.cells (zeroA n) TI))
 refine ⟨hc.bl, fun g hg => ?_, hc.cG, fun g g' hg hg' => ?_⟩
 ·cases hg; exact ⟨h.bl.size, World.alloc_heap_new w _⟩
 ·cases hg
  have := (Array.getElem?_eq_some_iff.1 (h.cG g' hg').2).1
  omega
theorem GnF.mkG {w1 w : World} {n : Nat} {g1 : Option Nat} (h : GnF w1 n g1 none w) : GnF w1 n g1 (some w.heap.size) (w.alloc (.cells zmatV TM)) := by
 have hc := h.call (al_below w (.cells zmatV TM))
 refine ⟨hc.bl, hc.c1, fun g hg => ?_, fun g g' hg hg' => ?_⟩
 ·cases hg; exact ⟨h.bl.size, World.alloc_heap_new w _⟩
 ·cases hg'
  have := (Array.getElem?_eq_some_iff.1 (h.c1 g hg).2).1
  omega
theorem zeroMat (w : World) : (zeroValue TM).run Tryz.prog w = .ok (.agg zmatV) w := by kernel_rfl
theorem exec_ldC {a : Act} {o : Oper} {w : World} {x : Operand} {g : Nat} {nm : ByteArray} {f k dom : Int} {pv : Value} (ho : o.op = .load 46 x) (hx : a.eval x = .pointer (some ⟨g, 0, none⟩)) (h : Box w g (codeV nm f k pv dom)) :
  (execOp a.eval o).run Tryz.prog w = .ok (.value (.agg (codeV nm f k pv dom))) w := by
 obtain ⟨t, h1⟩ := h
 refine exec_load ho hx ?_
 have := run_loadVar_row (P := Tryz.prog) w g t 46 (codeV nm f k pv dom) (0, 0) _ h1 Tryz.underlying46 rfl (show (Tryz.prog.info? 46).map (·.size) = some 5 by kernel_rfl)
 simp [Instr.loadAt, Instr.sureAddr, this]
theorem setCells4 (w : World) (g : Nat) (p q r v : Value) : w.setCells g 0 [p, q, r, v] = (((w.setCell ⟨g, 0, none⟩ p).setCell ⟨g, 1, none⟩ q).setCell ⟨g, 2, none⟩ r).setCell ⟨g, 3, none⟩ v := rfl
structure GeF (w0 : World) (nm : ByteArray) (c : CodeM) (pv : Value) (dom : Int) (base gA gR gG : Nat) (v : Value) (L : List Int) (wr : World) : Prop where
 bA : Box wr gA (codeV nm c.m c.k pv dom)
 bR : Box wr gR zmatV
 bG : wr.heap[gG]? = some (.cells #[.int .i64 (c.m : Int), .int .i64 ((c.n : Nat) : Int), .int .i64 (c.k : Int), v] TM (0, 0))
 own : OwnI base wr v L
 bl : Below w0.heap.size w0 wr
 ne : gA < base ∧ gR < base ∧ base ≤ gG ∧ w0.heap.size ≤ gR ∧ w0.heap.size ≤ base ∧ base ≤ wr.heap.size
 nv : v.ownBlock ≠ some gG
theorem GeF.below {w0 wr w' : World} {nm : ByteArray} {c : CodeM} {pv : Value} {dom : Int} {base gA gR gG : Nat} {v : Value} {L : List Int} (h : GeF w0 nm c pv dom base gA gR gG v L wr) (hb : Below wr.heap.size wr w') : GeF w0 nm c pv dom base gA gR gG v L w' :=
 ⟨h.bA.below hb, h.bR.below hb, (hb.block gG (Array.getElem?_eq_some_iff.1 h.bG).1).trans h.bG, h.own.below hb, h.bl.trans (hb.mono h.bl.size), by obtain ⟨a1, a2, a3, a4, a5, a6⟩ := h.ne; exact ⟨a1, a2, a3, a4, a5, Nat.le_trans a6 hb.size⟩, h.nv⟩
theorem own_zero {w : World} {base g n : Nat} (hb : base ≤ g) (hn : n ≤ maxLen) (h : w.heap[g]? = some (.cells (zeroA n) TI (0, 0))) : OwnI base w (.slice (some ⟨g, 0, none⟩) n n) (List.replicate n 0) := by
 have hl : (List.replicate n (0 : Int)).length = n := List.length_replicate
 refine ⟨by rw [intsV_len, Nat.mul_one], .inr ⟨g, n, zeroA n, by rw [hl], hb, h, by rw [hl]; exact Nat.le_refl _, hn, by unfold zeroA; simp, ?_⟩⟩
 rw [hl]
 unfold zeroA intsV
 simp
theorem ge_start {w0 w1 wz : World} {nm : ByteArray} {c : CodeM} {pv : Value} {dom : Int} {gA gR g1 gG N : Nat} (hA : Box w1 gA (codeV nm c.m c.k pv dom)) (hR : Box w1 gR zmatV) (hb : Below w0.heap.size w0 w1) (hr : w0.heap.size ≤ gR) (hn : N ≤ maxLen) (hG : GnF w1 N (some g1) (some gG) wz) :
  GeF w0 nm c pv dom w1.heap.size gA gR gG (.slice (some ⟨g1, 0, none⟩) N N) (List.replicate N 0) (wz.setCells gG 0 [.int .i64 (c.m : Int), .int .i64 ((c.n : Nat) : Int), .int .i64 (c.k : Int), .slice (some ⟨g1, 0, none⟩) N N]) := by
 rw [setCells4]
 obtain ⟨b1, h1⟩ := hG.c1 g1 rfl
 obtain ⟨b2, h2⟩ := hG.cG gG rfl
 have hne := hG.ne g1 gG rfl rfl
 have hA' := hA.below hG.bl
 have hR' := hR.below hG.bl
 have hlA := hA.lt
 have hlR := hR.lt
 have hbt := set4_but (w := wz) (g := gG) (.int .i64 (c.m : Int)) (.int .i64 ((c.n : Nat) : Int)) (.int .i64 (c.k : Int)) (.slice (some ⟨g1, 0, none⟩) N N)
 refine ⟨hA'.but hbt (by omega), hR'.but hbt (by omega), set4 _ _ _ _ h2, own_zero b1 hn ?_, (hb.trans (hG.bl.mono hb.size)).trans (hbt.below (Nat.le_trans hb.size b2) (Nat.le_trans hb.size hG.bl.size)), ⟨hlA, hlR, b2, hr, hb.size, Nat.le_trans hG.bl.size hbt.size⟩, ?_⟩
 ·rw [hbt.block g1 (Array.getElem?_eq_some_iff.1 h1).1 hne]; exact h1
 ·intro h
  simp only [Value.ownBlock, Option.some.injEq] at h
  exact hne h
def onesL (k : Nat) : Nat → List Int
 | 0 => List.replicate (k * k) 0
 | i + 1 => (onesL k i).set (i * k + i) 1
theorem onesL_len (k : Nat) : ∀ i, (onesL k i).length = k * k
 | 0 => by unfold onesL; simp
 | i + 1 => by unfold onesL; rw [List.length_set]; exact onesL_len k i
theorem onesL_at (k : Nat) : ∀ i, i ≤ k → ∀ x, x < k → ∀ y, y < k → (onesL k i)[x * k + y]? = some (if x = y ∧ x < i then 1 else 0)
 | 0, _, x, hx, y, hy => by
  have := idx_lt hx hy
  unfold onesL
  rw [List.getElem?_replicate, if_pos this, if_neg (by omega)]
 | i + 1, hi, x, hx, y, hy => by
  have ih := onesL_at k i (by omega) x hx y hy
  have hl := idx_lt (R := k) (C := k) (show i < k by omega) (show i < k by omega)
  unfold onesL
  by_cases h : x = i ∧ y = i
  ·obtain ⟨rfl, rfl⟩ := h
   rw [List.getElem?_set_self (by rw [onesL_len]; exact hl), if_pos ⟨rfl, by omega⟩]
  ·rw [List.getElem?_set_ne (by
    intro he
    obtain ⟨h1, h2⟩ := idx_inj (show i < k by omega) hy he
    exact h ⟨h1.symm, h2.symm⟩), ih]
   by_cases h2 : x = y ∧ x < i
   ·rw [if_pos h2, if_pos ⟨h2.1, by omega⟩]
   ·rw [if_neg h2, if_neg (by omega)]
theorem OwnI.cell {base g n cp : Nat} {w : World} {L : List Int} (h : OwnI base w (.slice (some ⟨g, 0, none⟩) n cp) L) {p : Nat} {x : Int} (hx : L[p]? = some x) : w.cell? ⟨g, p, none⟩ = some (.int .i64 x) ∧ w.frozen? ⟨g, p, none⟩ = false := by
 rcases h.2 with ⟨h0, -⟩ | ⟨g', cap, cur, hv, hb, hg, h1, h2, h3, h4⟩
 ·cases h0
 ·simp only [Value.slice.injEq, Option.some.injEq, Addr.mk.injEq] at hv
  obtain ⟨⟨rfl, -⟩, rfl, rfl⟩ := hv
  have h5 := intsV_at hx
  rw [← h4, List.getElem?_take] at h5
  constructor
  ·unfold World.cell?
   simp only [hg]
   split at h5
   ·simpa using h5
   ·cases h5
  ·unfold World.frozen?; simp [hg]
theorem OwnI.set {base g n cp : Nat} {w : World} {L : List Int} (h : OwnI base w (.slice (some ⟨g, 0, none⟩) n cp) L) (p : Nat) (x : Int) : OwnI base (w.setCell ⟨g, p, none⟩ (.int .i64 x)) (.slice (some ⟨g, 0, none⟩) n cp) (L.set p x) := by
 have hl : (intsV (L.set p x)) = (intsV L).set p (.int .i64 x) := by unfold intsV; rw [List.map_set]
 rcases h.2 with ⟨h0, -⟩ | ⟨g', cap, cur, hv, hb, hg, h1, h2, h3, h4⟩
 ·cases h0
 ·simp only [Value.slice.injEq, Option.some.injEq, Addr.mk.injEq] at hv
  obtain ⟨⟨rfl, -⟩, rfl, rfl⟩ := hv
  refine ⟨by rw [intsV_len, Nat.mul_one], .inr ⟨g, cp, cur.setIfInBounds p (.int .i64 x), by rw [List.length_set], hb, heap_setCell_same w g p cur TI _ hg, by rw [List.length_set]; exact h1, h2, by simpa using h3, ?_⟩⟩
  rw [hl, List.length_set, ← h4, Array.toList_setIfInBounds, List.take_set]
theorem GeF.set {w0 wr : World} {nm : ByteArray} {c : CodeM} {pv : Value} {dom : Int} {base gA gR gG g n cp : Nat} {L : List Int} (h : GeF w0 nm c pv dom base gA gR gG (.slice (some ⟨g, 0, none⟩) n cp) L wr) (hb : base ≤ g) (p : Nat) (x : Int) :
  GeF w0 nm c pv dom base gA gR gG (.slice (some ⟨g, 0, none⟩) n cp) (L.set p x) (wr.setCell ⟨g, p, none⟩ (.int .i64 x)) := by
 obtain ⟨a1, a2, a3, a4, a5, a6⟩ := h.ne
 have hne : gG ≠ g := fun e => h.nv (by simp [Value.ownBlock, e])
 have hbt := But.set g p wr (.int .i64 x)
 exact ⟨h.bA.but hbt (by omega), h.bR.but hbt (by omega), (hbt.block gG (Array.getElem?_eq_some_iff.1 h.bG).1 hne).trans h.bG, h.own.set p x, h.bl.trans (hbt.below (by omega) h.bl.size), ⟨a1, a2, a3, a4, a5, Nat.le_trans a6 hbt.size⟩, h.nv⟩
structure GeO (w0 : World) (nm : ByteArray) (c : CodeM) (pv : Value) (dom : Int) (base gA gR gG g1 N : Nat) (k : Value) (wr : World) : Prop where
 st : ∃ i : Nat, i ≤ c.k ∧ k = .int .i64 (i : Int) ∧ GeF w0 nm c pv dom base gA gR gG (.slice (some ⟨g1, 0, none⟩) N N) (onesL c.k i) wr
theorem GeF.cells {w0 wr : World} {nm : ByteArray} {c : CodeM} {pv : Value} {dom : Int} {base gA gR gG : Nat} {v : Value} {L : List Int} (h : GeF w0 nm c pv dom base gA gR gG v L wr) : wr.cell? ⟨gG, 0, none⟩ = some (.int .i64 (c.m : Int)) ∧ wr.cell? ⟨gG, 1, none⟩ = some (.int .i64 ((c.n : Nat) : Int)) ∧ wr.cell? ⟨gG, 2, none⟩ = some (.int .i64 (c.k : Int)) ∧ wr.cell? ⟨gG, 3, none⟩ = some v :=
 have hB : Box wr gG #[.int .i64 (c.m : Int), .int .i64 ((c.n : Nat) : Int), .int .i64 (c.k : Int), v] := ⟨TM, h.bG⟩
 ⟨hB.cell 0, hB.cell 1, hB.cell 2, hB.cell 3⟩
structure GeZ (w0 : World) (c : CodeM) (base gR gG : Nat) (v : Value) (L : List Int) (wr : World) : Prop where
 bR : Box wr gR zmatV
 bG : Box wr gG #[.int .i64 (c.m : Int), .int .i64 ((c.n : Nat) : Int), .int .i64 (c.k : Int), v]
 own : OwnI base wr v L
 bl : Below w0.heap.size w0 wr
 ne : gR < base ∧ w0.heap.size ≤ gR ∧ w0.heap.size ≤ base
theorem GeF.app {w0 w4 w5 : World} {nm : ByteArray} {c : CodeM} {pv : Value} {dom : Int} {base gA gR gG g n cp : Nat} {L L3 : List Int} {v' : Value} (h : GeF w0 nm c pv dom base gA gR gG (.slice (some ⟨g, 0, none⟩) n cp) L w4) (hb : base ≤ g) (ho : OwnI base w5 v' L3) (hbt : But g w4 w5) :
  GeZ w0 c base gR gG v' L3 (w5.setCell ⟨gG, 3, none⟩ v') := by
 obtain ⟨a1, a2, a3, a4, a5, a6⟩ := h.ne
 have hne : gG ≠ g := fun e => h.nv (by simp [Value.ownBlock, e])
 have hG5 : w5.heap[gG]? = _ := (hbt.block gG (Array.getElem?_eq_some_iff.1 h.bG).1 hne).trans h.bG
 have hb2 := But.set gG 3 w5 v'
 refine ⟨(h.bR.but hbt (by omega)).but hb2 (by omega), ⟨TM, by rw [heap_setCell_same w5 gG 3 _ TM v' hG5]; simp⟩, ⟨ho.1, ?_⟩, (h.bl.trans (hbt.below (by omega) h.bl.size)).trans (hb2.below (by omega) (Nat.le_trans h.bl.size hbt.size)), ⟨a2, a4, a5⟩⟩
 rcases ho.2 with h0 | ⟨g', cap, cur, hv, hb', hg, h1⟩
 ·exact .inl h0
 ·refine .inr ⟨g', cap, cur, hv, hb', ?_, h1⟩
  have hn : g' ≠ gG := by
   intro e
   rw [e, hG5] at hg
   simp only [Option.some.injEq, Obj.cells.injEq] at hg
   exact absurd hg.2.1 (by decide)
  rw [hb2.block g' (Array.getElem?_eq_some_iff.1 hg).1 hn]; exact hg
theorem own_mat {base R C : Nat} {w : World} {v : Value} {L : List Int} {M : Mat} (h : OwnI base w v L) (hl : L.length = R * C) (h0 : 0 < R * C) (hM : ∀ i, i < R → ∀ j, j < C → L[i * C + j]? = some ((M i j : Nat) : Int)) :
  ∃ g cp, v = .slice (some ⟨g, 0, none⟩) (R * C) cp ∧ R * C ≤ cp ∧ cp ≤ maxLen ∧ base ≤ g ∧ MatB w g R C M := by
 rcases h.2 with ⟨rfl, hn⟩ | ⟨g, cp, cur, hv, hb, hg, h1, h2, h3, h4⟩
 ·rw [hl] at hn; omega
 ·rw [hl] at hv h1 h4
  refine ⟨g, cp, hv, h1, h2, hb, ⟨cur, TI, hg, by omega, fun i hi j hj => ?_⟩⟩
  have hlt := idx_lt hi hj
  have h6 : (intsV L)[i * C + j]? = some (.int .i64 ((M i j : Nat) : Int)) := intsV_at (hM i hi j hj)
  rw [← h4, List.getElem?_take, if_pos (by omega)] at h6
  simpa using h6
theorem exec_stM {a : Act} {o : Oper} {w : World} {x y : Operand} {g : Nat} {p q r v : Value} (ho : o.op = .store TM x y) (hx : a.eval x = .pointer (some ⟨g, 0, none⟩)) (hy : a.eval y = .agg #[p, q, r, v]) (hw : w.heap[g]? = some (.cells zmatV TM (0, 0)))
  (h1 : ∀ u ∈ [p, q, r, v], u.oneCell' = true) : (execOp a.eval o).run Tryz.prog w = .ok .skip (w.setCells g 0 [p, q, r, v]) := by
 refine exec_store ho hx hy (run_storeAt_mid w g 0 TM #[p, q, r, v] ?_ (by kernel_rfl) (Array.all_eq_true_iff_forall_mem.2 (fun u hu => h1 u (by simpa using hu))))
 intro j hj
 rw [Nat.zero_add]
 unfold World.cell? World.frozen?
 simp only [hw]
 match j, hj with
 | 0, _ => simp [zmatV]
 | 1, _ => simp [zmatV]
 | 2, _ => simp [zmatV]
 | 3, _ => simp [zmatV]
end Go.Proofs.YteikbikopgabjaaGreatDoor
namespace Go.Sl
open Go Go.RowKit
section
variable {P : Program} {ops : Array Oper} {Q : Exit → Act → World → Prop} {S : World → Prop} {fuel : Nat} {listed : Array Bool} {t : Array Value} {df : List Deferred} {w : World}
theorem reg_fork3 (i j k : Nat) (hck : (Region.ready .any ops listed == [i, j, k]) = true) (h1 : RStep P ops Q S fuel listed t df w i) (h2 : RStep P ops Q S fuel listed t df w j) (h3 : RStep P ops Q S fuel listed t df w k) : Reg P ops Q S (fuel + 1) listed t df w := by
 have hck' : Region.ready .any ops listed = [i, j, k] := by simpa using hck
 constructor
 intro hc
 refine ⟨fun h => (by rw [hck'] at h; cases h), fun x hx => ?_⟩
 rw [hck'] at hx
 rcases (show x = i ∨ x = j ∨ x = k by simpa using hx) with rfl | rfl | rfl
 ·exact h1.out hc
 ·exact h2.out hc
 ·exact h3.out hc
theorem reg_cutT2 {T : Nat → Nat → Array Value × List Deferred} (K : Nat → Nat → World → Prop) (h : Reg P ops (atEnd Q fun t' df' w' => ∃ g g2, (t', df') = T g g2 ∧ K g g2 w') S fuel listed t df w) (k : ∀ g g2 w', K g g2 w' → Q .normal ⟨(T g g2).1, (T g g2).2⟩ w') : Reg P ops Q S fuel listed t df w :=
 reg_cut _ h fun t' df' w' ⟨g, g2, hT, hK⟩ => by
  have h1 := congrArg Prod.fst hT
  have h2 := congrArg Prod.snd hT
  simp only at h1 h2
  subst h1 h2
  exact k g g2 w' hK
end
end Go.Sl
namespace Go.Proofs.YteikbikopgabjaaGreatDoor
open Go.RowKit Go.GF Go.Sl
theorem gen_cells {c : CodeM} (hok : c.Ok) : ∀ i, i < c.n → ∀ j, j < c.k → (onesL c.k c.k ++ (c.par.map natsI).flatten)[i * c.k + j]? = some ((c.gen i j : Nat) : Int) := by
 intro i hi j hj
 by_cases h : i < c.k
 ·have := idx_lt (R := c.k) (C := c.k) h hj
  rw [List.getElem?_append_left (by rw [onesL_len]; exact this), onesL_at c.k c.k (Nat.le_refl _) i h j hj]
  unfold CodeM.gen
  rw [if_pos h]
  by_cases e : i = j
  ·rw [if_pos ⟨e, h⟩, if_pos e]; rfl
  ·rw [if_neg (fun h' => e h'.1), if_neg e]; rfl
 ·obtain ⟨t, rfl⟩ : ∃ t, i = c.k + t := ⟨i - c.k, by omega⟩
  have ht : t < c.par.length := by unfold CodeM.n at hi; omega
  rw [List.getElem?_append_right (by rw [onesL_len, Nat.add_mul]; omega), onesL_len, Nat.add_mul, show c.k * c.k + t * c.k + j - c.k * c.k = t * c.k + j by omega]
  have hf : ∀ (l : List (List Nat)), (∀ r ∈ l, r.length = c.k) → ∀ t, t < l.length → (l.map natsI).flatten[t * c.k + j]? = some (((((l[t]?).getD [])[j]?.getD 0 : Nat)) : Int) := by
   intro l
   induction l with
   | nil => intro _ t ht; simp at ht
   | cons r l ih =>
    intro hr t ht
    have hrl := hr r (by simp)
    rw [List.map_cons, List.flatten_cons]
    cases t with
    | zero =>
     rw [Nat.zero_mul, Nat.zero_add, List.getElem?_append_left (by rw [natsI_len, hrl]; exact hj)]
     unfold natsI
     rw [List.getElem?_map, List.getElem?_eq_getElem (by rw [hrl]; exact hj)]
     simp [hrl, hj]
    | succ t =>
     rw [List.getElem?_append_right (by rw [natsI_len, hrl, Nat.add_mul]; omega), natsI_len, hrl, Nat.add_mul, Nat.one_mul, show t * c.k + c.k + j - c.k = t * c.k + j by omega, ih (fun r' hr' => hr r' (by simp [hr'])) t (by simpa using ht)]
     simp
  rw [hf c.par (fun r hr => (hok.row r hr).1) t ht]
  unfold CodeM.gen
  rw [if_neg h, show c.k + t - c.k = t by omega]
theorem flat_len {c : CodeM} (hok : c.Ok) : (c.par.map natsI).flatten.length = c.par.length * c.k := by
 have h : ∀ l : List (List Nat), (∀ r ∈ l, r.length = c.k) → (l.map natsI).flatten.length = l.length * c.k := by
  intro l
  induction l with
  | nil => intro _; simp
  | cons r l ih =>
   intro h
   rw [List.map_cons, List.flatten_cons, List.length_append, natsI_len, h r (by simp), ih (fun r' hr' => h r' (by simp [hr'])), List.length_cons, Nat.add_mul]; omega
 exact h _ fun r hr => (hok.row r hr).1
theorem flat_le {c : CodeM} (_ : c.Ok) (h32 : c.n ≤ 32) : c.k * c.k + c.par.length * c.k ≤ 1024 := by
 rw [← Nat.add_mul]
 unfold CodeM.n at h32
 exact Nat.mul_le_mul h32 (show c.k ≤ 32 by omega)
set_option maxRecDepth 20000 in
set_option maxHeartbeats 4000000 in
theorem gen_any (cv : Array Value) (c : CodeM) (w : World) (hT : TabF w) (hc : CodeAt w cv c) :
  Calls Tryz.prog 119 #[.agg cv] w fun e w' => ∃ g cp, e = .returned (.tuple #[.agg (matV c.m c.n c.k g cp), .int .i64 0]) ∧ c.n * c.k ≤ cp ∧ cp ≤ maxLen ∧ w.heap.size ≤ g ∧ MatB w' g c.n c.k c.gen ∧ Below w.heap.size w w' := by
 have HW := Lib.hid (fun W (hb : Below w.heap.size w W) => width_any cv c W (hT.below hb) (hc.below hb))
 obtain ⟨⟨nm, pv, dom, rfl, hp⟩, hok, h32, hval⟩ := hc
 have HV := Lib.hid (fun W (hb : Below w.heap.size w W) => evalid_any nm c.m c.k pv dom (c.par.map natsI) W (hT.below hb) (hp.below hb) (by unfold CodeM.n at h32; omega))
 rw [hval] at HV
 have hk32 : c.k ≤ 32 := by unfold CodeM.n at h32; omega
 have h4 : c.k * c.k ≤ 32 * 32 := Nat.mul_le_mul hk32 hk32
 have hw1 : IntKind.i64.wrap ((c.k : Int) * (c.k : Int)) = ((c.k * c.k : Nat) : Int) := by
  rw [show (c.k : Int) * (c.k : Int) = ((c.k * c.k : Nat) : Int) by simp]; exact wrap_nat (by omega)
 obtain ⟨N, hN⟩ : ∃ N, c.k * c.k = N := ⟨_, rfl⟩
 rw [hN] at hw1 h4
 have HN := Lib.hid hN
 have HMK := Lib.hid (fun W => run_mkI N (by omega) W)
 have HCC := Lib.hid (fun W (hb : Below w.heap.size w W) => concat_any pv (c.par.map natsI) W (hp.below hb) (by
  intro r hr
  obtain ⟨r', hr', rfl⟩ := List.mem_map.1 hr
  rw [natsI_len, (hok.row r' hr').1]; exact hok.pos) (by have := flat_len hok; have := flat_le hok h32; omega))
 have HFL := Lib.hid (And.intro (flat_len hok) (flat_le hok h32))
 have HX := Lib.hid (And.intro hok h32)
 clear hN h4 hp hok h32 hval hT
 have HBX := Lib.hid (fun t t' w1 (h : Below ((w.alloc (.cells (codeV nm c.m c.k pv dom) t)).alloc (.cells zmatV t')).heap.size ((w.alloc (.cells (codeV nm c.m c.k pv dom) t)).alloc (.cells zmatV t')) w1) =>
  show Box w1 w.heap.size (codeV nm c.m c.k pv dom) ∧ Box w1 (w.heap.size + 1) zmatV ∧ Below w.heap.size w w1 ∧ w.heap.size + 2 ≤ w1.heap.size from by
   have hA : Box ((w.alloc (.cells (codeV nm c.m c.k pv dom) t)).alloc (.cells zmatV t')) w.heap.size (codeV nm c.m c.k pv dom) := ⟨t, al2_a _ _ _⟩
   have hZ : Box ((w.alloc (.cells (codeV nm c.m c.k pv dom) t)).alloc (.cells zmatV t')) (w.heap.size + 1) zmatV := ⟨t', al2_b _ _ _⟩
   have hs : ((w.alloc (.cells (codeV nm c.m c.k pv dom) t)).alloc (.cells zmatV t')).heap.size = w.heap.size + 2 := by simp
   exact ⟨hA.below h, hZ.below h, ((al_below w _).trans ((al_below _ _).mono (by simp))).trans (h.mono (by simp; omega)), by have := h.size; omega⟩)
 unfold codeV
 go_enter Tryz.func119, Tryz.ntmps119
 go_wp2_with (go_at_call 66; refine (HV.out _ ((al_below w _).trans ((al_below _ _).mono (by simp)))).mono ?_; rintro e w1 ⟨rfl, h1⟩; obtain ⟨hg, hz, hb1, hs1⟩ := HBX.out _ _ w1 h1; clear h1)
 have HB1 := Lib.hid hb1
 have HG1 := Lib.hid hg
 have hS0 : Below w1.heap.size w1 w1.drew := (Below.refl _ w1).drew
 refine reg_begin (fun w' => Below w1.heap.size w1 w') (by kernel_rfl) ?_
 have H1 := Lib.hid (show GnF w1 N none none w1.drew from ⟨hS0, by simp, by simp, by simp⟩)
 obtain ⟨W0, hW0⟩ : ∃ W0, w1.drew = W0 := ⟨_, rfl⟩
 rw [hW0] at H1 hS0 ⊢
 clear hW0
 apply reg_cutT2 (K := fun g1 gG w' => ∃ wz : World, w' = wz.setCells gG 0 [.int .i64 (c.m : Int), .int .i64 ((c.n : Nat) : Int), .int .i64 (c.k : Int), .slice (some ⟨g1, 0, none⟩) N N] ∧ GnF w1 N (some g1) (some gG) wz)
 ·skip
  (apply reg_take 0 rfl rfl (by decide +kernel) rfl); (intro w' h; go_simp; rfl); exact hS0; simp only [zq1, zq2, zq3]
  refine reg_take 1 (v := .int .i64 (c.m : Int)) rfl rfl (by decide +kernel) rfl (fun w' h => exec_load_cell rfl rfl Tryz.underlying3 rfl (HG1.out.below h).code.2.1) hS0 ?_; simp only [zq1, zq2, zq3]
  refine reg_take 2 (v := .agg (codeV nm c.m c.k pv dom)) rfl rfl (by decide +kernel) rfl (fun w' h => exec_ldC rfl rfl (HG1.out.below h)) hS0 ?_; simp only [zq1, zq2, zq3]
  (apply reg_take 4 rfl rfl (by decide +kernel) rfl); (intro w' h; go_simp; rfl); exact hS0; simp only [zq1, zq2, zq3]
  refine reg_take 5 (v := .int .i64 (c.k : Int)) rfl rfl (by decide +kernel) rfl (fun w' h => exec_load_cell rfl rfl Tryz.underlying3 rfl (HG1.out.below h).code.2.2.1) hS0 ?_; simp only [zq1, zq2, zq3]
  (apply reg_take 6 rfl rfl (by decide +kernel) rfl); (intro w' h; go_simp; rfl); exact hS0; simp only [zq1, zq2, zq3]
  refine reg_take 7 (v := .int .i64 (c.k : Int)) rfl rfl (by decide +kernel) rfl (fun w' h => exec_load_cell rfl rfl Tryz.underlying3 rfl (HG1.out.below h).code.2.2.1) hS0 ?_; simp only [zq1, zq2, zq3]
  (apply reg_take 8 rfl rfl (by decide +kernel) rfl); (intro w' h; go_simp; rfl); exact hS0; simp only [zq1, zq2, zq3]
  refine reg_take 9 (v := .int .i64 (c.k : Int)) rfl rfl (by decide +kernel) rfl (fun w' h => exec_load_cell rfl rfl Tryz.underlying3 rfl (HG1.out.below h).code.2.2.1) hS0 ?_; simp only [zq1, zq2, zq3]
  refine reg_take 10 (v := .int .i64 ((N : Nat) : Int)) rfl rfl (by decide +kernel) rfl (fun w' h => exec_binop rfl rfl rfl rfl (by go_simp)) hS0 ?_; simp only [zq1, zq2, zq3]
  refine reg_fork3 3 11 13 (by decide +kernel) ?_ ?_ ?_
  ·skip
   refine rstep_call rfl rfl (by decide +kernel) rfl (f := 40) (args := #[.agg (codeV nm c.m c.k pv dom)]) (R := fun v w' => v = .int .i64 ((c.n : Nat) : Int) ∧ Hid (GnF w1 N none none w')) (by kernel_rfl) ((HW.out W0 (HB1.out.trans (H1.out.bl.mono HB1.out.size))).mono fun e w' h => ⟨_, h.1, rfl, H1.out.call h.2⟩) ?_
   rintro _ V1 ⟨rfl, h5⟩
   refine ⟨h5.out.bl, ?_⟩
   replace H1 := h5
   clear h5
   simp only [zq1, zq2, zq3]
   obtain ⟨W1, rfl⟩ : ∃ W1 : World, W1 = V1 := ⟨_, rfl⟩
   refine reg_fork 11 13 (by decide +kernel) ?_ ?_
   ·skip
    refine rstep_run (.slice (some ⟨W1.heap.size, 0, none⟩) N N) (W1.alloc (.cells (zeroA N) TI)) rfl rfl (by decide +kernel) rfl (exec_makeJ rfl rfl rfl (HMK.out W1)) H1.out.mk1.bl ?_; simp only [zq1, zq2, zq3]
    replace H1 := Lib.hid H1.out.mk1
    generalize W1.alloc (.cells (zeroA N) TI) = V2 at H1 ⊢
    generalize W1.heap.size = g1 at H1 ⊢
    obtain ⟨W2, rfl⟩ : ∃ W2 : World, W2 = V2 := ⟨_, rfl⟩
    (apply reg_take 12 rfl rfl (by decide +kernel) rfl); (intro w' h; go_simp; rfl); exact H1.out.bl; simp only [zq1, zq2, zq3]
    refine reg_run 13 (.pointer (some ⟨W2.heap.size, 0, none⟩)) (W2.alloc (.cells zmatV TM)) rfl rfl (by decide +kernel) rfl (exec_alloc_zero rfl _ (zeroMat _)) H1.out.mkG.bl ?_; simp only [zq1, zq2, zq3]
    replace H1 := Lib.hid H1.out.mkG
    generalize W2.alloc (.cells zmatV TM) = V3 at H1 ⊢
    generalize W2.heap.size = gG at H1 ⊢
    obtain ⟨W3, rfl⟩ : ∃ W3 : World, W3 = V3 := ⟨_, rfl⟩
    refine reg_do_last 14 (W3.setCells gG 0 [.int .i64 (c.m : Int), .int .i64 ((c.n : Nat) : Int), .int .i64 (c.k : Int), .slice (some ⟨g1, 0, none⟩) N N]) rfl rfl (by decide +kernel) rfl (exec_stM rfl rfl rfl (H1.out.cG gG rfl).2 (by simp [Value.oneCell'])) ?_
    exact ⟨g1, gG, rfl, W3, rfl, H1.out⟩
   ·skip
    refine rstep_run (.pointer (some ⟨W1.heap.size, 0, none⟩)) (W1.alloc (.cells zmatV TM)) rfl rfl (by decide +kernel) rfl (exec_alloc_zero rfl _ (zeroMat _)) H1.out.mkG.bl ?_; simp only [zq1, zq2, zq3]
    replace H1 := Lib.hid H1.out.mkG
    generalize W1.alloc (.cells zmatV TM) = V2 at H1 ⊢
    generalize W1.heap.size = gG at H1 ⊢
    obtain ⟨W2, rfl⟩ : ∃ W2 : World, W2 = V2 := ⟨_, rfl⟩
    refine reg_run 11 (.slice (some ⟨W2.heap.size, 0, none⟩) N N) (W2.alloc (.cells (zeroA N) TI)) rfl rfl (by decide +kernel) rfl (exec_makeJ rfl rfl rfl (HMK.out W2)) H1.out.mk1.bl ?_; simp only [zq1, zq2, zq3]
    replace H1 := Lib.hid H1.out.mk1
    generalize W2.alloc (.cells (zeroA N) TI) = V3 at H1 ⊢
    generalize W2.heap.size = g1 at H1 ⊢
    obtain ⟨W3, rfl⟩ : ∃ W3 : World, W3 = V3 := ⟨_, rfl⟩
    (apply reg_take 12 rfl rfl (by decide +kernel) rfl); (intro w' h; go_simp; rfl); exact H1.out.bl; simp only [zq1, zq2, zq3]
    refine reg_do_last 14 (W3.setCells gG 0 [.int .i64 (c.m : Int), .int .i64 ((c.n : Nat) : Int), .int .i64 (c.k : Int), .slice (some ⟨g1, 0, none⟩) N N]) rfl rfl (by decide +kernel) rfl (exec_stM rfl rfl rfl (H1.out.cG gG rfl).2 (by simp [Value.oneCell'])) ?_
    exact ⟨g1, gG, rfl, W3, rfl, H1.out⟩
  ·skip
   refine rstep_run (.slice (some ⟨W0.heap.size, 0, none⟩) N N) (W0.alloc (.cells (zeroA N) TI)) rfl rfl (by decide +kernel) rfl (exec_makeJ rfl rfl rfl (HMK.out W0)) H1.out.mk1.bl ?_; simp only [zq1, zq2, zq3]
   replace H1 := Lib.hid H1.out.mk1
   generalize W0.alloc (.cells (zeroA N) TI) = V1 at H1 ⊢
   generalize W0.heap.size = g1 at H1 ⊢
   obtain ⟨W1, rfl⟩ : ∃ W1 : World, W1 = V1 := ⟨_, rfl⟩
   refine reg_fork 3 13 (by decide +kernel) ?_ ?_
   ·skip
    refine rstep_call rfl rfl (by decide +kernel) rfl (f := 40) (args := #[.agg (codeV nm c.m c.k pv dom)]) (R := fun v w' => v = .int .i64 ((c.n : Nat) : Int) ∧ Hid (GnF w1 N (some g1) none w')) (by kernel_rfl) ((HW.out W1 (HB1.out.trans (H1.out.bl.mono HB1.out.size))).mono fun e w' h => ⟨_, h.1, rfl, H1.out.call h.2⟩) ?_
    rintro _ V2 ⟨rfl, h5⟩
    refine ⟨h5.out.bl, ?_⟩
    replace H1 := h5
    clear h5
    simp only [zq1, zq2, zq3]
    obtain ⟨W2, rfl⟩ : ∃ W2 : World, W2 = V2 := ⟨_, rfl⟩
    (apply reg_take 12 rfl rfl (by decide +kernel) rfl); (intro w' h; go_simp; rfl); exact H1.out.bl; simp only [zq1, zq2, zq3]
    refine reg_run 13 (.pointer (some ⟨W2.heap.size, 0, none⟩)) (W2.alloc (.cells zmatV TM)) rfl rfl (by decide +kernel) rfl (exec_alloc_zero rfl _ (zeroMat _)) H1.out.mkG.bl ?_; simp only [zq1, zq2, zq3]
    replace H1 := Lib.hid H1.out.mkG
    generalize W2.alloc (.cells zmatV TM) = V3 at H1 ⊢
    generalize W2.heap.size = gG at H1 ⊢
    obtain ⟨W3, rfl⟩ : ∃ W3 : World, W3 = V3 := ⟨_, rfl⟩
    refine reg_do_last 14 (W3.setCells gG 0 [.int .i64 (c.m : Int), .int .i64 ((c.n : Nat) : Int), .int .i64 (c.k : Int), .slice (some ⟨g1, 0, none⟩) N N]) rfl rfl (by decide +kernel) rfl (exec_stM rfl rfl rfl (H1.out.cG gG rfl).2 (by simp [Value.oneCell'])) ?_
    exact ⟨g1, gG, rfl, W3, rfl, H1.out⟩
   ·skip
    refine rstep_run (.pointer (some ⟨W1.heap.size, 0, none⟩)) (W1.alloc (.cells zmatV TM)) rfl rfl (by decide +kernel) rfl (exec_alloc_zero rfl _ (zeroMat _)) H1.out.mkG.bl ?_; simp only [zq1, zq2, zq3]
    replace H1 := Lib.hid H1.out.mkG
    generalize W1.alloc (.cells zmatV TM) = V2 at H1 ⊢
    generalize W1.heap.size = gG at H1 ⊢
    obtain ⟨W2, rfl⟩ : ∃ W2 : World, W2 = V2 := ⟨_, rfl⟩
    refine reg_call 3 rfl rfl (by decide +kernel) rfl (f := 40) (args := #[.agg (codeV nm c.m c.k pv dom)]) (R := fun v w' => v = .int .i64 ((c.n : Nat) : Int) ∧ Hid (GnF w1 N (some g1) (some gG) w')) (by kernel_rfl) ((HW.out W2 (HB1.out.trans (H1.out.bl.mono HB1.out.size))).mono fun e w' h => ⟨_, h.1, rfl, H1.out.call h.2⟩) ?_
    rintro _ V3 ⟨rfl, h5⟩
    refine ⟨h5.out.bl, ?_⟩
    replace H1 := h5
    clear h5
    simp only [zq1, zq2, zq3]
    obtain ⟨W3, rfl⟩ : ∃ W3 : World, W3 = V3 := ⟨_, rfl⟩
    (apply reg_take 12 rfl rfl (by decide +kernel) rfl); (intro w' h; go_simp; rfl); exact H1.out.bl; simp only [zq1, zq2, zq3]
    refine reg_do_last 14 (W3.setCells gG 0 [.int .i64 (c.m : Int), .int .i64 ((c.n : Nat) : Int), .int .i64 (c.k : Int), .slice (some ⟨g1, 0, none⟩) N N]) rfl rfl (by decide +kernel) rfl (exec_stM rfl rfl rfl (H1.out.cG gG rfl).2 (by simp [Value.oneCell'])) ?_
    exact ⟨g1, gG, rfl, W3, rfl, H1.out⟩
  ·skip
   refine rstep_run (.pointer (some ⟨W0.heap.size, 0, none⟩)) (W0.alloc (.cells zmatV TM)) rfl rfl (by decide +kernel) rfl (exec_alloc_zero rfl _ (zeroMat _)) H1.out.mkG.bl ?_; simp only [zq1, zq2, zq3]
   replace H1 := Lib.hid H1.out.mkG
   generalize W0.alloc (.cells zmatV TM) = V1 at H1 ⊢
   generalize W0.heap.size = gG at H1 ⊢
   obtain ⟨W1, rfl⟩ : ∃ W1 : World, W1 = V1 := ⟨_, rfl⟩
   refine reg_fork 3 11 (by decide +kernel) ?_ ?_
   ·skip
    refine rstep_call rfl rfl (by decide +kernel) rfl (f := 40) (args := #[.agg (codeV nm c.m c.k pv dom)]) (R := fun v w' => v = .int .i64 ((c.n : Nat) : Int) ∧ Hid (GnF w1 N none (some gG) w')) (by kernel_rfl) ((HW.out W1 (HB1.out.trans (H1.out.bl.mono HB1.out.size))).mono fun e w' h => ⟨_, h.1, rfl, H1.out.call h.2⟩) ?_
    rintro _ V2 ⟨rfl, h5⟩
    refine ⟨h5.out.bl, ?_⟩
    replace H1 := h5
    clear h5
    simp only [zq1, zq2, zq3]
    obtain ⟨W2, rfl⟩ : ∃ W2 : World, W2 = V2 := ⟨_, rfl⟩
    refine reg_run 11 (.slice (some ⟨W2.heap.size, 0, none⟩) N N) (W2.alloc (.cells (zeroA N) TI)) rfl rfl (by decide +kernel) rfl (exec_makeJ rfl rfl rfl (HMK.out W2)) H1.out.mk1.bl ?_; simp only [zq1, zq2, zq3]
    replace H1 := Lib.hid H1.out.mk1
    generalize W2.alloc (.cells (zeroA N) TI) = V3 at H1 ⊢
    generalize W2.heap.size = g1 at H1 ⊢
    obtain ⟨W3, rfl⟩ : ∃ W3 : World, W3 = V3 := ⟨_, rfl⟩
    (apply reg_take 12 rfl rfl (by decide +kernel) rfl); (intro w' h; go_simp; rfl); exact H1.out.bl; simp only [zq1, zq2, zq3]
    refine reg_do_last 14 (W3.setCells gG 0 [.int .i64 (c.m : Int), .int .i64 ((c.n : Nat) : Int), .int .i64 (c.k : Int), .slice (some ⟨g1, 0, none⟩) N N]) rfl rfl (by decide +kernel) rfl (exec_stM rfl rfl rfl (H1.out.cG gG rfl).2 (by simp [Value.oneCell'])) ?_
    exact ⟨g1, gG, rfl, W3, rfl, H1.out⟩
   ·skip
    refine rstep_run (.slice (some ⟨W1.heap.size, 0, none⟩) N N) (W1.alloc (.cells (zeroA N) TI)) rfl rfl (by decide +kernel) rfl (exec_makeJ rfl rfl rfl (HMK.out W1)) H1.out.mk1.bl ?_; simp only [zq1, zq2, zq3]
    replace H1 := Lib.hid H1.out.mk1
    generalize W1.alloc (.cells (zeroA N) TI) = V2 at H1 ⊢
    generalize W1.heap.size = g1 at H1 ⊢
    obtain ⟨W2, rfl⟩ : ∃ W2 : World, W2 = V2 := ⟨_, rfl⟩
    refine reg_call 3 rfl rfl (by decide +kernel) rfl (f := 40) (args := #[.agg (codeV nm c.m c.k pv dom)]) (R := fun v w' => v = .int .i64 ((c.n : Nat) : Int) ∧ Hid (GnF w1 N (some g1) (some gG) w')) (by kernel_rfl) ((HW.out W2 (HB1.out.trans (H1.out.bl.mono HB1.out.size))).mono fun e w' h => ⟨_, h.1, rfl, H1.out.call h.2⟩) ?_
    rintro _ V3 ⟨rfl, h5⟩
    refine ⟨h5.out.bl, ?_⟩
    replace H1 := h5
    clear h5
    simp only [zq1, zq2, zq3]
    obtain ⟨W3, rfl⟩ : ∃ W3 : World, W3 = V3 := ⟨_, rfl⟩
    (apply reg_take 12 rfl rfl (by decide +kernel) rfl); (intro w' h; go_simp; rfl); exact H1.out.bl; simp only [zq1, zq2, zq3]
    refine reg_do_last 14 (W3.setCells gG 0 [.int .i64 (c.m : Int), .int .i64 ((c.n : Nat) : Int), .int .i64 (c.k : Int), .slice (some ⟨g1, 0, none⟩) N N]) rfl rfl (by decide +kernel) rfl (exec_stM rfl rfl rfl (H1.out.cG gG rfl).2 (by simp [Value.oneCell'])) ?_
    exact ⟨g1, gG, rfl, W3, rfl, H1.out⟩
 rintro g1 gG _ ⟨wz, rfl, hG⟩
 have hge := ge_start (w0 := w) (nm := nm) (c := c) (pv := pv) (dom := dom) hg hz hb1 (by omega : w.heap.size ≤ w.heap.size + 1) (by have h5 : N ≤ 1024 := (by rw [← HN.out]; exact Nat.mul_le_mul hk32 hk32); unfold maxLen; omega) hG
 have HB := Lib.hid (hG.c1 g1 rfl).1
 generalize wz.setCells gG 0 [.int .i64 (c.m : Int), .int .i64 ((c.n : Nat) : Int), .int .i64 (c.k : Int), .slice (some ⟨g1, 0, none⟩) N N] = w3 at *
 have HF := Lib.hid (show GeF w nm c pv dom w1.heap.size w.heap.size (w.heap.size + 1) gG (.slice (some ⟨g1, 0, none⟩) N N) (onesL c.k 0) w3 by
  have h : onesL c.k 0 = List.replicate N 0 := by unfold onesL; rw [HN.out]
  rw [h]; exact hge)
 obtain ⟨a0, a1, a2, a3, -⟩ := hge.bA.code
 generalize w1.heap.size = base at *
 have hkI : (c.k : Int) ≤ 32 := by omega
 clear hge hG hg hz hb1 hs1 H1 hS0 HB1 HG1 HMK
 go_wp2
 clear a0 a1 a2 a3
 go_loopw [25] (fun k wr => GeO w nm c pv dom base w.heap.size (w.heap.size + 1) gG g1 N k wr) (fun k _ => c.k - (intOf k).toNat)
 case atStart => exact ⟨⟨0, Nat.zero_le _, rfl, HF.out⟩⟩
 case round =>
  clear HF
  obtain ⟨i, hi, rfl, hF⟩ := hrel.st
  clear hrel
  obtain ⟨a0, a1, a2, a3, -⟩ := hF.bA.code
  obtain ⟨d0, d1, d2, d3⟩ := hF.cells
  by_cases hlt : i < c.k
  ·have hltd : decide ((i : Int) < (c.k : Int)) = true := decide_eq_true (by omega)
   have hwi : IntKind.i64.wrap ((i : Int) + 1) = (i : Int) + 1 := IntWalk.i64_in _ (by omega)
   have hx := idx_lt (R := c.k) (C := c.k) hlt hlt
   rw [HN.out] at hx
   have h5 : N ≤ 1024 := by rw [← HN.out]; exact Nat.mul_le_mul hk32 hk32
   have hle : i * c.k ≤ N := by omega
   have hwa : IntKind.i64.wrap ((i : Int) * (c.k : Int)) = ((i * c.k : Nat) : Int) := by
    rw [show (i : Int) * (c.k : Int) = ((i * c.k : Nat) : Int) by simp]; exact wrap_nat (by omega)
   have hwb : IntKind.i64.wrap (((i * c.k : Nat) : Int) + (i : Int)) = ((i * c.k + i : Nat) : Int) := by
    rw [show ((i * c.k : Nat) : Int) + (i : Int) = ((i * c.k + i : Nat) : Int) by simp]; exact wrap_nat (by omega)
   obtain ⟨e1, f1⟩ := hF.own.cell (onesL_at c.k i hi i hlt i hlt)
   have HS := Lib.hid (show GeF w nm c pv dom base w.heap.size (w.heap.size + 1) gG (.slice (some ⟨g1, 0, none⟩) N N) (onesL c.k (i + 1)) (wr.setCell ⟨g1, i * c.k + i, none⟩ (.int .i64 1)) from hF.set HB.out _ _)
   have hix : ((i * c.k + i : Nat) : Int) < (N : Int) := by omega
   generalize i * c.k = P at *
   generalize hQ : P + i = Q at *
   clear hF
   go_wp2
   go_roundw
   case rel => exact ⟨⟨i + 1, hlt, rfl, HS.out⟩⟩
   case measure => simp only [intOf]; omega
  ·obtain rfl : i = c.k := by omega
   have hltd : decide ((c.k : Int) < (c.k : Int)) = false := decide_eq_false (by omega)
   have HF := Lib.hid hF
   clear hF
   go_wp2
   obtain ⟨vz, hvz⟩ : ∃ vz, Value.slice (some ⟨g1, 0, none⟩) N N = vz := ⟨_, rfl⟩
   have hS0 : Box wr.drew w.heap.size (codeV nm c.m c.k pv dom) ∧ wr.drew.cell? ⟨gG, 3, none⟩ = some (.slice (some ⟨g1, 0, none⟩) N N) := ⟨HF.out.bA.keep rfl, HF.out.cells.2.2.2⟩
   refine reg_begin (fun w' => Box w' w.heap.size (codeV nm c.m c.k pv dom) ∧ w'.cell? ⟨gG, 3, none⟩ = some (.slice (some ⟨g1, 0, none⟩) N N)) (by kernel_rfl) ?_
   (apply reg_take 0 rfl rfl (by decide +kernel) rfl); (intro w' h; go_simp; rfl); exact hS0; simp only [zq1, zq2, zq3]
   refine reg_take 1 (v := .slice (some ⟨g1, 0, none⟩) N N) rfl rfl (by decide +kernel) rfl (fun w' h => exec_load_cell rfl rfl Tryz.underlying36 rfl h.2) hS0 ?_; simp only [zq1, zq2, zq3]
   (apply reg_take 2 rfl rfl (by decide +kernel) rfl); (intro w' h; go_simp; rfl); exact hS0; simp only [zq1, zq2, zq3]
   refine reg_take 3 (v := pv) rfl rfl (by decide +kernel) rfl (fun w' h => exec_load_cell rfl rfl Tryz.underlying44 rfl h.1.code.2.2.2.1) hS0 ?_; simp only [zq1, zq2, zq3]
   have hFd := HF.out.bl.drew
   refine reg_call 4 rfl rfl (by decide +kernel) rfl (f := 143) (args := #[pv]) (R := fun v w' => Hid (OwnI wr.drew.heap.size w' v (c.par.map natsI).flatten ∧ Below wr.drew.heap.size wr.drew w')) (by kernel_rfl) ((HCC.out wr.drew hFd).mono fun e w' h => by
    obtain ⟨v, rfl, h1, h2⟩ := h
    exact ⟨v, rfl, h1, h2⟩) ?_
   intro v2 w4 h4
   have HF4 := Lib.hid (HF.out.below (w' := w4) ⟨h4.out.2.os, h4.out.2.tape, h4.out.2.output, h4.out.2.size, h4.out.2.block⟩)
   have hS4 : Box w4 w.heap.size (codeV nm c.m c.k pv dom) ∧ w4.cell? ⟨gG, 3, none⟩ = some (.slice (some ⟨g1, 0, none⟩) N N) := ⟨HF4.out.bA, HF4.out.cells.2.2.2⟩
   refine ⟨hS4, ?_⟩
   simp only [zq1, zq2, zq3]
   obtain ⟨v', w5, hr, h5, h6⟩ := run_apB HF4.out.own h4.out.1 (by rw [onesL_len, HFL.out.1, HN.out]; have h := HFL.out.2; rw [HN.out] at h; omega) HF4.out.ne.2.2.2.2.2
   have HZ := Lib.hid (HF4.out.app HB.out h5 h6)
   obtain ⟨q1, q2, q3, q4, q5, q6⟩ := HF4.out.ne
   have hbg := HB.out
   have hgn : gG ≠ g1 := fun e => HF4.out.nv (by simp [Value.ownBlock, e])
   have hBG5 : Box w5 gG #[.int .i64 (c.m : Int), .int .i64 ((c.n : Nat) : Int), .int .i64 (c.k : Int), .slice (some ⟨g1, 0, none⟩) N N] := Box.but ⟨TM, HF4.out.bG⟩ h6 hgn
   have hS5 : Box w5 w.heap.size (codeV nm c.m c.k pv dom) ∧ w5.cell? ⟨gG, 3, none⟩ = some (.slice (some ⟨g1, 0, none⟩) N N) := ⟨HF4.out.bA.but h6 (by omega), hBG5.cell 3⟩
   refine reg_run 5 (v') (w5) rfl rfl (by decide +kernel) rfl (exec_appJ rfl rfl rfl rfl hr) (hS5) ?_; simp only [zq1, zq2, zq3]
   (apply reg_take 6 rfl rfl (by decide +kernel) rfl); (intro w' h; go_simp; rfl); exact hS5; simp only [zq1, zq2, zq3]
   refine reg_do_last 7 (w5.setCell ⟨gG, 3, none⟩ v') rfl rfl (by decide +kernel) rfl (exec_stS rfl rfl rfl h5 hS5.2 (hBG5.free 3)) ?_
   generalize w5.setCell ⟨gG, 3, none⟩ v' = w6 at *
   obtain ⟨g, cg, rfl, hg1, hg2, hg3, hg4⟩ := own_mat (R := c.n) (C := c.k) (M := c.gen) HZ.out.own (by rw [List.length_append, onesL_len, HFL.out.1, ← Nat.add_mul]; rfl) (Nat.mul_pos (by unfold CodeM.n; have := HX.out.1.pos; omega) HX.out.1.pos) (gen_cells HX.out.1)
   have HGM := Lib.hid (And.intro hg1 (And.intro hg2 (And.intro hg3 hg4)))
   have d0 := HZ.out.bG.cell 0
   have d1 := HZ.out.bG.cell 1
   have d2 := HZ.out.bG.cell 2
   have d3 := HZ.out.bG.cell 3
   obtain ⟨r0, r1, r2, r3, z0, z1, z2, z3⟩ := HZ.out.bR.zmat
   clear hr h5 h6 hS0 hS4 hS5 hBG5 h4 HF4 HF hFd a0 a1 a2 a3 hg1 hg2 hg3 hg4
   go_wp2
   obtain ⟨tz, hz⟩ := HZ.out.bR
   have h4 := set4 (.int .i64 (c.m : Int)) (.int .i64 ((c.n : Nat) : Int)) (.int .i64 (c.k : Int)) (.slice (some ⟨g, 0, none⟩) (c.n * c.k) cg) hz
   have hb4 := set4_but (w := w6) (g := w.heap.size + 1) (.int .i64 (c.m : Int)) (.int .i64 ((c.n : Nat) : Int)) (.int .i64 (c.k : Int)) (.slice (some ⟨g, 0, none⟩) (c.n * c.k) cg)
   refine bodyPost_ret (v := .tuple #[.agg (matV c.m c.n c.k g cg), .int .i64 0]) (resultsJ Tryz.results119 (ResJ.row rfl h4 Tryz.underlying193 rfl info_mat) (.tmp rfl)) rfl ?_
   obtain ⟨hg1, hg2, hg3, hg4⟩ := HGM.out
   obtain ⟨y1, y2, y3⟩ := HZ.out.ne
   exact ⟨g, cg, rfl, hg1, hg2, Nat.le_trans y3 hg3, hg4.but hb4 (by omega), HZ.out.bl.trans (hb4.below y2 HZ.out.bl.size)⟩
end Go.Proofs.YteikbikopgabjaaGreatDoor
