import Derived.Test.YteikbikopgabjaaGreatDoorH20
import Derived.Test.YteikbikopgabjaaGreatDoorH03
import Derived.RegionTactic
import Derived.BigRegion
import Derived.Laws.AppendOwn
/- Part 22 of a proof; the last part says what is proved. -/
namespace Go.GF
open Go Go.RowKit
section
variable {P : Program} {tmps : Array Value} {w : World}
inductive ResJ (P : Program) (tmps : Array Value) (w : World) : ResultVar → Value → Prop
 | tmp {t : Tmp} {v : Value} (h : tmps.getD t undef = v) : ResJ P tmps w (.tmp t) v
 | cell {p : Tmp} {ty : TypeId} {ad : Addr} {v : Value} (h : tmps.getD p undef = .pointer (some ad)) (hl : (loadVar ty ad).run P w = .ok v w) : ResJ P tmps w (.cell p ty) v
theorem ResJ.row {p : Tmp} {ty T : TypeId} {g : Nat} {cs : Array Value} {fr : Nat × Nat} {d : TypeDesc} (h : tmps.getD p undef = .pointer (some ⟨g, 0, none⟩)) (hg : w.heap[g]? = some (.cells cs T fr))
  (hu : P.underlying ty = some d) (hd : (match d with | .struct _ | .array _ _ => true | _ => false) = true) (hi : (P.info? ty).map (·.size) = some cs.size) : ResJ P tmps w (.cell p ty) (.agg cs) :=
 .cell h (run_loadVar_row w g T ty cs fr d hg hu hd hi)
theorem resultsJ {fn : Func} {r1 r2 : ResultVar} {v1 v2 : Value} (h : fn.results = #[r1, r2]) (h1 : ResJ P tmps w r1 v1) (h2 : ResJ P tmps w r2 v2) : (results fn tmps).run P w = .ok (.tuple #[v1, v2]) w := by
 cases h1 <;> cases h2 <;> simp_all [results, asAddr]
end
def zeroA (n : Nat) : Array Value := Array.replicate n (.int .i64 0)
theorem made_zero (n : Nat) : madeCells #[Value.int .i64 0] n = zeroA n := by
 unfold madeCells zeroA
 apply Array.ext
 ·simp
 ·intro i h1 h2
  simp [Nat.mod_one]
theorem zeroA_mat {w : World} {b R C : Nat} {t : TypeId} (h : w.heap[b]? = some (.cells (zeroA (R * C)) t (0, 0))) : MatB w b R C (fun _ _ => 0) :=
 ⟨_, _, h, by unfold zeroA; simp, fun i hi j hj => by unfold zeroA; simp [idx_lt hi hj]⟩
theorem al2_a (w : World) (a b : Obj) : ((w.alloc a).alloc b).heap[w.heap.size]? = some a := by
 rw [Below.heap_alloc _ _ _ (by simp)]; exact World.alloc_heap_new w a
theorem al2_b (w : World) (a b : Obj) : ((w.alloc a).alloc b).heap[w.heap.size + 1]? = some b := by
 have := World.alloc_heap_new (w.alloc a) b
 rwa [show (w.alloc a).heap.size = w.heap.size + 1 by simp] at this
theorem set4 {w : World} {g : Nat} {t : TypeId} {a b c d : Value} (x y z u : Value) (h : w.heap[g]? = some (.cells #[a, b, c, d] t (0, 0))) :
  ((((w.setCell ⟨g, 0, none⟩ x).setCell ⟨g, 1, none⟩ y).setCell ⟨g, 2, none⟩ z).setCell ⟨g, 3, none⟩ u).heap[g]? = some (.cells #[x, y, z, u] t (0, 0)) := by
 have h1 := heap_setCell_same w g 0 _ t x h
 have h2 := heap_setCell_same _ g 1 _ t y h1
 have h3 := heap_setCell_same _ g 2 _ t z h2
 have h4 := heap_setCell_same _ g 3 _ t u h3
 rw [h4]; simp
theorem set4_but {w : World} {g : Nat} (x y z u : Value) : But g w ((((w.setCell ⟨g, 0, none⟩ x).setCell ⟨g, 1, none⟩ y).setCell ⟨g, 2, none⟩ z).setCell ⟨g, 3, none⟩ u) :=
 (((But.set _ _ _ _).trans (But.set _ _ _ _)).trans (But.set _ _ _ _)).trans (But.set _ _ _ _)
end Go.GF
namespace Go.Proofs.YteikbikopgabjaaGreatDoor
open Go.RowKit Go.GF Go.Sl
abbrev TM : TypeId := 193
theorem info_int3 : (Tryz.prog.info? TI).map (fun i => (i.zero, i.size, i.bytes)) = some (some (.int .i64 0), 1, 8) := by kernel_rfl
theorem info_mat : (Tryz.prog.info? TM).map (·.size) = some 4 := by kernel_rfl
theorem run_mkI (n : Nat) (hn : n ≤ 1024) (w : World) : (Instr.makeSlice 36 (.int .i64 (n : Int)) (.int .i64 (n : Int))).run Tryz.prog w = .ok (.slice (some ⟨w.heap.size, 0, none⟩) n n) (w.alloc (.cells (zeroA n) TI)) := by
 obtain ⟨i0, hi, hz0, hz1, hz2⟩ := info_parts info_int3
 have h := run_makeSlice (P := Tryz.prog) (w := w) 36 TI i0 _ Tryz.underlying36 hi hz0 .i64 .i64 n n (by omega) (by omega) (by rw [hz1]; omega) (by rw [hz2]; omega) (by omega)
 rw [h, hz1, Int.toNat_natCast, Nat.mul_one, show (Value.int .i64 0).cells = #[Value.int .i64 0] from rfl, made_zero]
theorem exec_makeJ {P : Program} {o : Oper} {a : Act} {w w' : World} {T : TypeId} {x y : Operand} {vx vy v : Value} (ho : o.op = .makeSlice T x y) (hx : a.eval x = vx) (hy : a.eval y = vy) (h : (Instr.makeSlice T vx vy).run P w = .ok v w') :
  (execOp a.eval o).run P w = .ok (.value v) w' := by
 unfold execOp; simp [ho, hx, hy, h]
set_option maxRecDepth 20000 in
set_option maxHeartbeats 1000000 in
theorem zero_any (m R C : Nat) (hR : R ≤ 32) (hC : C ≤ 32) (w : World) :
  Calls Tryz.prog 164 #[.int .i64 (m : Int), .int .i64 (R : Int), .int .i64 (C : Int)] w fun e w' => ∃ b, e = .returned (.agg (matV m R C b (R * C))) ∧ w.heap.size ≤ b ∧ MatB w' b R C (fun _ _ => 0) ∧ Below w.heap.size w w' := by
 have h4 : R * C ≤ 32 * 32 := Nat.mul_le_mul hR hC
 have hw1 : IntKind.i64.wrap ((R : Int) * (C : Int)) = ((R * C : Nat) : Int) := by
  rw [show (R : Int) * (C : Int) = ((R * C : Nat) : Int) by simp]; exact wrap_nat (by omega)
 unfold matV
 obtain ⟨N, hN⟩ : ∃ N, R * C = N := ⟨_, rfl⟩
 rw [hN] at hw1
 have HN := Lib.hid hN
 have HK := Lib.hid (fun W => run_mkI N (by omega) W)
 clear h4 hN hR hC
 rw [HN.out]
 go_enter Tryz.func164, Tryz.ntmps164
 go_wp2_with (at_make; refine wpList_run rfl (exec_makeJ rfl rfl rfl (HK.out _)) ?_)
 refine bodyPost_ret (v := .agg (matV m R C (w.heap.size + 1) N)) (results_cell_row Tryz.results164 _ _ w.heap.size TM (matV m R C (w.heap.size + 1) N) (0, 0) _ rfl (by unfold matV; rw [HN.out]; exact al2_a _ _ _) Tryz.underlying193 rfl info_mat) rfl ?_
 refine ⟨w.heap.size + 1, by unfold matV; rw [HN.out], by omega, zeroA_mat (t := TI) (by rw [HN.out]; exact al2_b _ _ _), (al_below w _).trans ((al_below _ _).mono (by simp))⟩
end Go.Proofs.YteikbikopgabjaaGreatDoor
namespace Go.GF
open Go Go.RowKit
def Box (w : World) (g : Nat) (c : Array Value) : Prop := ∃ t, w.heap[g]? = some (.cells c t (0, 0))
theorem Box.lt {w : World} {g : Nat} {c : Array Value} (h : Box w g c) : g < w.heap.size := by
 obtain ⟨t, h1⟩ := h
 rcases Nat.lt_or_ge g w.heap.size with h | h
 ·exact h
 ·rw [Array.getElem?_eq_none h] at h1; cases h1
theorem Box.keep {w w' : World} {g : Nat} {c : Array Value} (h : Box w g c) (hk : w'.heap[g]? = w.heap[g]?) : Box w' g c := by
 obtain ⟨t, h1⟩ := h
 exact ⟨t, hk.trans h1⟩
theorem Box.below {w w' : World} {g : Nat} {c : Array Value} (h : Box w g c) (hb : Below w.heap.size w w') : Box w' g c := h.keep (hb.block g h.lt)
theorem Box.but {w w' : World} {g b : Nat} {c : Array Value} (h : Box w g c) (hb : But b w w') (hne : g ≠ b) : Box w' g c := h.keep (hb.block g h.lt hne)
theorem Box.cell {w : World} {g : Nat} {c : Array Value} (h : Box w g c) (i : Nat) : w.cell? ⟨g, i, none⟩ = c[i]? := by
 obtain ⟨t, h1⟩ := h
 unfold World.cell?
 simp [h1]
theorem Box.free {w : World} {g : Nat} {c : Array Value} (h : Box w g c) (i : Nat) : w.frozen? ⟨g, i, none⟩ = false := by
 obtain ⟨t, h1⟩ := h
 unfold World.frozen?
 simp [h1]
theorem Box.mat {w : World} {g m R C b cap : Nat} (h : Box w g (matV m R C b cap)) : w.cell? ⟨g, 0, none⟩ = some (.int .i64 (m : Int)) ∧ w.cell? ⟨g, 1, none⟩ = some (.int .i64 (R : Int)) ∧ w.cell? ⟨g, 2, none⟩ = some (.int .i64 (C : Int)) ∧ w.cell? ⟨g, 3, none⟩ = some (.slice (some ⟨b, 0, none⟩) (R * C) cap) :=
 ⟨h.cell 0, h.cell 1, h.cell 2, h.cell 3⟩
def zmatV : Array Value := #[.int .i64 0, .int .i64 0, .int .i64 0, .slice none 0 0]
theorem Box.zmat {w : World} {g : Nat} (h : Box w g zmatV) : w.cell? ⟨g, 0, none⟩ = some (.int .i64 0) ∧ w.cell? ⟨g, 1, none⟩ = some (.int .i64 0) ∧ w.cell? ⟨g, 2, none⟩ = some (.int .i64 0) ∧ w.cell? ⟨g, 3, none⟩ = some (.slice none 0 0) ∧ w.frozen? ⟨g, 0, none⟩ = false ∧ w.frozen? ⟨g, 1, none⟩ = false ∧ w.frozen? ⟨g, 2, none⟩ = false ∧ w.frozen? ⟨g, 3, none⟩ = false :=
 ⟨h.cell 0, h.cell 1, h.cell 2, h.cell 3, h.free 0, h.free 1, h.free 2, h.free 3⟩
def trN (M : Mat) (i j : Nat) : Mat := fun x y => if y < i ∨ (y = i ∧ x < j) then M y x else 0
theorem trN_zero (M : Mat) : trN M 0 0 = fun _ _ => 0 := by funext x y; unfold trN; rw [if_neg (by omega)]
theorem trN_set (M : Mat) (i j : Nat) : setM (trN M i j) j i (M i j) = trN M i (j + 1) := by
 funext x y
 unfold setM trN
 by_cases h : x = j ∧ y = i
 ·obtain ⟨rfl, rfl⟩ := h
  rw [if_pos ⟨rfl, rfl⟩, if_pos (by omega)]
 ·rw [if_neg h]
  by_cases h1 : y < i ∨ (y = i ∧ x < j)
  ·rw [if_pos h1, if_pos (by omega)]
  ·rw [if_neg h1, if_neg (by omega)]
theorem trN_row (M : Mat) (i C : Nat) : ∀ x, x < C → ∀ y, trN M i C x y = trN M (i + 1) 0 x y := by
 intro x hx y
 unfold trN
 by_cases h1 : y < i + 1
 ·rw [if_pos (by omega), if_pos (by omega)]
 ·rw [if_neg (by omega), if_neg (by omega)]
theorem trN_all (M : Mat) (R C : Nat) : ∀ x, x < C → ∀ y, y < R → trN M R 0 x y = M y x := by
 intro x _ y hy
 unfold trN; rw [if_pos (by omega)]
structure TrF (w0 : World) (b R C m cap : Nat) (M : Mat) (gA gR gB b' : Nat) (N : Mat) (wr : World) : Prop where
 bM : MatB wr b R C M
 bN : MatB wr b' C R N
 bA : Box wr gA (matV m R C b cap)
 bR : Box wr gR zmatV
 bB : Box wr gB (matV m C R b' (C * R))
 bl : Below w0.heap.size w0 wr
 lo : w0.heap.size ≤ b' ∧ w0.heap.size ≤ gR
 ne : b ≠ b' ∧ gA ≠ b' ∧ gR ≠ b' ∧ gB ≠ b' ∧ b ≠ gR ∧ gA ≠ gR ∧ gB ≠ gR
variable {w0 : World} {b R C m cap : Nat} {M : Mat} {gA gR gB b' : Nat} {N : Mat} {wr wr' : World}
theorem TrF.below (h : TrF w0 b R C m cap M gA gR gB b' N wr) (hb : Below wr.heap.size wr wr') : TrF w0 b R C m cap M gA gR gB b' N wr' :=
 ⟨h.bM.below hb, h.bN.below hb, h.bA.below hb, h.bR.below hb, h.bB.below hb, h.bl.trans (hb.mono h.bl.size), h.lo, h.ne⟩
theorem TrF.set (h : TrF w0 b R C m cap M gA gR gB b' N wr) {x y : Nat} (hy : y < R) (v : Nat) : TrF w0 b R C m cap M gA gR gB b' (setM N x y v) (wr.setCell ⟨b', x * R + y, none⟩ (.int .i64 (v : Int))) :=
 have hb := But.set b' (x * R + y) wr (.int .i64 (v : Int))
 ⟨h.bM.but hb h.ne.1, h.bN.set hy v, h.bA.but hb h.ne.2.1, h.bR.but hb h.ne.2.2.1, h.bB.but hb h.ne.2.2.2.1, h.bl.trans (hb.below h.lo.1 h.bl.size), h.lo, h.ne⟩
theorem TrF.congr {N' : Mat} (h : TrF w0 b R C m cap M gA gR gB b' N wr) (he : ∀ i, i < C → ∀ j, j < R → N i j = N' i j) : TrF w0 b R C m cap M gA gR gB b' N' wr :=
 ⟨h.bM, h.bN.congr he, h.bA, h.bR, h.bB, h.bl, h.lo, h.ne⟩
structure TrO (w0 : World) (b R C m cap : Nat) (M : Mat) (gA gR gB b' : Nat) (k : Value) (wr : World) : Prop where
 st : ∃ n : Nat, n ≤ R ∧ k = .int .i64 (n : Int) ∧ TrF w0 b R C m cap M gA gR gB b' (trN M n 0) wr
structure TrI (w0 : World) (b R C m cap : Nat) (M : Mat) (gA gR gB b' i : Nat) (k : Value) (wr : World) : Prop where
 st : ∃ n : Nat, n ≤ C ∧ k = .int .i64 (n : Int) ∧ TrF w0 b R C m cap M gA gR gB b' (trN M i n) wr
end Go.GF
namespace Go.Proofs.YteikbikopgabjaaGreatDoor
open Go.RowKit Go.GF Go.Sl
theorem tr_start (w : World) (m R C b cap : Nat) (t t' : TypeId) (w1 : World) (h1 : Below ((w.alloc (.cells (matV m R C b cap) t)).alloc (.cells zmatV t')).heap.size ((w.alloc (.cells (matV m R C b cap) t)).alloc (.cells zmatV t')) w1) :
  Box w1 w.heap.size (matV m R C b cap) ∧ Box w1 (w.heap.size + 1) zmatV ∧ Below w.heap.size w w1 ∧ w.heap.size + 2 ≤ w1.heap.size := by
 have hA : Box ((w.alloc (.cells (matV m R C b cap) t)).alloc (.cells zmatV t')) w.heap.size (matV m R C b cap) := ⟨t, al2_a _ _ _⟩
 have hZ : Box ((w.alloc (.cells (matV m R C b cap) t)).alloc (.cells zmatV t')) (w.heap.size + 1) zmatV := ⟨t', al2_b _ _ _⟩
 have hs : ((w.alloc (.cells (matV m R C b cap) t)).alloc (.cells zmatV t')).heap.size = w.heap.size + 2 := by simp
 refine ⟨hA.below h1, hZ.below h1, ?_, by have := h1.size; omega⟩
 exact ((al_below w _).trans ((al_below _ _).mono (by simp))).trans (h1.mono (by simp; omega))
theorem tr_zero (w w1 w2 : World) (m R C b cap b' : Nat) (M : Mat) (t : TypeId) (hM : MatB w b R C M) (hA : Box w1 w.heap.size (matV m R C b cap)) (hR : Box w1 (w.heap.size + 1) zmatV) (h1 : Below w.heap.size w w1) (hs : w.heap.size + 2 ≤ w1.heap.size)
  (hlo : w1.heap.size ≤ b') (hz : MatB w2 b' C R (fun _ _ => 0)) (h2 : Below w1.heap.size w1 w2) :
  TrF w b R C m cap M w.heap.size (w.heap.size + 1) w2.heap.size b' (trN M 0 0) (w2.alloc (.cells (matV m C R b' (C * R)) t)) := by
 have h3 := al_below w2 (.cells (matV m C R b' (C * R)) t)
 have hbl := hM.lt
 have hbz := hz.lt
 have h4 := h2.size
 rw [trN_zero]
 exact ⟨((hM.below h1).below h2).below h3, hz.below h3, (hA.below h2).below h3, (hR.below h2).below h3, ⟨t, World.alloc_heap_new w2 _⟩, (h1.trans (h2.mono h1.size)).trans (h3.mono (by have := h1.size; omega)), ⟨by omega, by omega⟩, by omega, by omega, by omega, by omega, by omega, by omega, by omega⟩
set_option maxRecDepth 20000 in
set_option maxHeartbeats 4000000 in
theorem transpose_any (m : Nat) (hm : isF m) (R C b cap : Nat) (hR : R ≤ 32) (hC : C ≤ 32) (hR0 : 0 < R) (hC0 : 0 < C) (hcap : R * C ≤ cap) (hcm : cap ≤ maxLen) (M : Mat) (hB : Bnd (2 ^ m) R C M) (w : World) (hM : MatB w b R C M) :
  Calls Tryz.prog 154 #[.agg (matV m R C b cap)] w fun e w' => ∃ b', e = .returned (.tuple #[.agg (matV m C R b' (C * R)), .int .i64 0]) ∧ w.heap.size ≤ b' ∧ MatB w' b' C R (fun i j => M j i) ∧ Below w.heap.size w w' := by
 have HV := Lib.hid (fun W (hb : Below w.heap.size w W) => mvalid_any m hm R C b cap hR hC hcap hcm M hB W (hM.below hb))
 have HZ := fun W => zero_any m C R hC hR W
 unfold matV at HZ
 replace HZ := Lib.hid HZ
 have HRA := Lib.hid (fun i (hi : i < R) W => row_any m R C b cap i hi hR hC hC0 hcap W)
 have HRB := Lib.hid (fun b' i (hi : i < C) W => row_any m C R b' (C * R) i hi hC hR hR0 (Nat.le_refl _) W)
 have HM := Lib.hid hM
 have hR32 : (R : Int) ≤ 32 := by omega
 have hC32 : (C : Int) ≤ 32 := by omega
 have HS := Lib.hid (fun t t' w1 h => tr_start w m R C b cap t t' w1 h)
 have HT := Lib.hid (fun w1 w2 b' t => tr_zero w w1 w2 m R C b cap b' M t hM)
 clear hM hB hm hcap hcm
 unfold matV
 go_enter Tryz.func154, Tryz.ntmps154
 go_wp2_with first
  | (go_at_call 152; refine (HV.out _ ((al_below w _).trans ((al_below _ _).mono (by simp)))).mono ?_; rintro e w1 ⟨rfl, h1⟩; obtain ⟨hA, hZ, hb1, hs1⟩ := HS.out _ _ w1 h1; obtain ⟨a0, a1, a2, -⟩ := hA.mat; clear h1)
  | (go_at_call 164; refine (HZ.out w1).mono ?_; rintro e w2 ⟨b', rfl, hlo, hz, h2⟩; obtain ⟨c0, c1, c2, -⟩ := (hA.below h2).mat; have hl2 := (hA.below h2).lt)
 have HF := Lib.hid (HT.out w1 w2 b' TM hA hZ hb1 hs1 hlo hz h2)
 clear hlo hz h2 hA hZ hb1 hs1 a0 a1 a2 c0 c1 c2 hl2 HV HZ HS HT HM
 generalize w2.heap.size = gB at *
 go_loopw [21] (fun k wr => TrO w b R C m cap M w.heap.size (w.heap.size + 1) gB b' k wr) (fun k _ => R - (intOf k).toNat)
 case atStart => exact ⟨⟨0, Nat.zero_le _, rfl, HF.out⟩⟩
 case round =>
  clear HF
  obtain ⟨i, hi, rfl, hF⟩ := hrel.st
  clear hrel
  by_cases hlt : i < R
  ·have hltd : decide ((i : Int) < (R : Int)) = true := decide_eq_true (by omega)
   obtain ⟨a0, a1, a2, a3⟩ := hF.bA.mat
   have HF := Lib.hid hF
   have hwi : IntKind.i64.wrap ((i : Int) + 1) = (i : Int) + 1 := IntWalk.i64_in _ (by omega)
   clear hF
   go_wp2_with (go_at_call 153; refine (HRA.out i hlt _).mono ?_; rintro e w3 ⟨rfl, h3⟩)
   clear a0 a1 a2 a3
   have HF3 := Lib.hid (HF.out.below h3)
   clear HF h3
   obtain ⟨wo, rfl⟩ : ∃ wo : World, wo = wr := ⟨_, rfl⟩
   go_loopw [28] (fun k wr => TrI w b R C m cap M w.heap.size (w.heap.size + 1) gB b' i k wr) (fun k _ => C - (intOf k).toNat)
   case atStart => exact ⟨⟨0, Nat.zero_le _, rfl, HF3.out⟩⟩
   case round =>
    clear HF3
    obtain ⟨j, hj, rfl, hF⟩ := hrel.st
    clear hrel
    by_cases hjt : j < C
    ·have hjtd : decide ((j : Int) < (C : Int)) = true := decide_eq_true (by omega)
     have hwj : IntKind.i64.wrap ((j : Int) + 1) = (j : Int) + 1 := IntWalk.i64_in _ (by omega)
     obtain ⟨d0, d1, d2, d3⟩ := hF.bB.mat
     have e1 := hF.bM.cell hlt hjt
     have HF := Lib.hid hF
     clear hF
     go_wp2_with (go_at_call 153; refine (HRB.out b' j hjt _).mono ?_; rintro e w4 ⟨rfl, h4⟩; have HF4 := Lib.hid (HF.out.below h4); have e2 := HF4.out.bN.cell hjt hlt; have f2 := HF4.out.bN.free (j * R + i))
     have HF5 := Lib.hid (show TrF w b R C m cap M w.heap.size (w.heap.size + 1) gB b' (trN M i (j + 1)) (w4.setCell ⟨b', j * R + i, none⟩ (.int .i64 ((M i j : Nat) : Int))) by
      rw [← trN_set]; exact HF4.out.set hlt _)
     go_roundw
     case rel => exact ⟨⟨j + 1, hjt, rfl, HF5.out⟩⟩
     case measure => simp only [intOf]; omega
    ·obtain rfl : j = C := by omega
     have hjtd : decide ((j : Int) < (j : Int)) = false := decide_eq_false (by omega)
     have HF := Lib.hid (hF.congr (N' := trN M (i + 1) 0) fun x hx y _ => trN_row M i j x hx y)
     clear hF
     go_wp2
     go_roundw
     case rel => exact ⟨⟨i + 1, hlt, rfl, HF.out⟩⟩
     case measure => simp only [intOf]; omega
  ·obtain rfl : i = R := by omega
   have hltd : decide ((i : Int) < (i : Int)) = false := decide_eq_false (by omega)
   obtain ⟨d0, d1, d2, d3⟩ := hF.bB.mat
   obtain ⟨r0, r1, r2, r3, z0, z1, z2, z3⟩ := hF.bR.zmat
   have HF := Lib.hid hF
   clear hF
   go_wp2
   obtain ⟨tz, hz⟩ := HF.out.bR
   have h4 := set4 (.int .i64 (m : Int)) (.int .i64 (C : Int)) (.int .i64 (i : Int)) (.slice (some ⟨b', 0, none⟩) (C * i) (C * i)) hz
   have hb4 := set4_but (w := wr) (g := w.heap.size + 1) (.int .i64 (m : Int)) (.int .i64 (C : Int)) (.int .i64 (i : Int)) (.slice (some ⟨b', 0, none⟩) (C * i) (C * i))
   refine bodyPost_ret (v := .tuple #[.agg (matV m C i b' (C * i)), .int .i64 0]) (resultsJ Tryz.results154 (ResJ.row rfl h4 Tryz.underlying193 rfl info_mat) (.tmp rfl)) rfl ?_
   obtain ⟨n1, n2, n3, n4, n5, n6, n7⟩ := HF.out.ne
   exact ⟨b', rfl, HF.out.lo.1, (HF.out.bN.but hb4 (Ne.symm n3)).congr fun x hx y hy => trN_all M i C x hx y hy, HF.out.bl.trans (hb4.below HF.out.lo.2 HF.out.bl.size)⟩
end Go.Proofs.YteikbikopgabjaaGreatDoor
namespace Go.GF
open Go Go.RowKit
def swK (M : Mat) (i r k : Nat) : Mat := fun a j => if j < k then swapM M i r a j else M a j
theorem swK_zero (M : Mat) (i r : Nat) : swK M i r 0 = M := by funext a j; unfold swK; rw [if_neg (by omega)]
theorem swK_at (M : Mat) (i r k a : Nat) : swK M i r k a k = M a k := by unfold swK; rw [if_neg (by omega)]
theorem swK_set (M : Mat) (i r k : Nat) : setM (setM (swK M i r k) i k (M r k)) r k (M i k) = swK M i r (k + 1) := by
 funext a j
 unfold setM swK swapM
 by_cases hj : j = k
 ·subst hj
  rw [if_pos (show j < j + 1 by omega)]
  by_cases h1 : a = r
  ·rw [if_pos ⟨h1, rfl⟩]
   by_cases h2 : a = i
   ·rw [if_pos h2]; rw [← h1, ← h2]
   ·rw [if_neg h2, if_pos h1]
  ·rw [if_neg (fun h => h1 h.1)]
   by_cases h2 : a = i
   ·rw [if_pos ⟨h2, rfl⟩, if_pos h2]
   ·rw [if_neg (fun h => h2 h.1), if_neg (by omega), if_neg h2, if_neg h1]
 ·rw [if_neg (fun h => hj h.2), if_neg (fun h => hj h.2)]
  by_cases h1 : j < k
  ·simp [h1, show j < k + 1 by omega]
  ·simp [h1, show ¬ j < k + 1 by omega]
theorem swK_all (M : Mat) (i r C : Nat) : ∀ a, ∀ j, j < C → swK M i r C a j = swapM M i r a j := by
 intro a j hj; unfold swK; rw [if_pos hj]
structure ReB (w0 : World) (b R C m cap : Nat) (M : Mat) (gA : Nat) (wr : World) : Prop where
 bM : MatB wr b R C M
 bA : Box wr gA (matV m R C b cap)
 bt : But b w0 wr
theorem ReB.below {w0 wr wr' : World} {b R C m cap : Nat} {M : Mat} {gA : Nat} (h : ReB w0 b R C m cap M gA wr) (hb : Below wr.heap.size wr wr') : ReB w0 b R C m cap M gA wr' :=
 ⟨h.bM.below hb, h.bA.below hb, h.bt.trans (But.of hb)⟩
theorem ReB.drew {w0 wr : World} {b R C m cap : Nat} {M : Mat} {gA : Nat} (h : ReB w0 b R C m cap M gA wr) : ReB w0 b R C m cap M gA wr.drew :=
 ⟨h.bM.keep rfl, h.bA.keep rfl, h.bt.drew⟩
end Go.GF
namespace Go.Proofs.YteikbikopgabjaaGreatDoor
open Go.RowKit Go.GF Go.Sl
theorem exec_ldM {a : Act} {o : Oper} {w : World} {x : Operand} {g m R C b cap : Nat} (ho : o.op = .load TM x) (hx : a.eval x = .pointer (some ⟨g, 0, none⟩)) (h : Box w g (matV m R C b cap)) :
  (execOp a.eval o).run Tryz.prog w = .ok (.value (.agg (matV m R C b cap))) w := by
 obtain ⟨t, h1⟩ := h
 refine exec_load ho hx ?_
 have := run_loadVar_row (P := Tryz.prog) w g t TM (matV m R C b cap) (0, 0) _ h1 Tryz.underlying193 rfl info_mat
 simp [Instr.loadAt, Instr.sureAddr, this]
structure SwSt (w : World) (b R C : Nat) (i r : Nat) (M : Mat) (k : Value) (wr : World) : Prop where
 st : ∃ n : Nat, n ≤ C ∧ k = .int .i64 (n : Int) ∧ MatB wr b R C (swK M i r n) ∧ But b w wr
set_option maxRecDepth 20000 in
set_option maxHeartbeats 2000000 in
theorem swap_any (m R C b cap gA i r : Nat) (hR : R ≤ 32) (hC : C ≤ 32) (hC0 : 0 < C) (hcap : R * C ≤ cap) (hi : i < R) (hr : r < R) (M : Mat) (w : World) (hM : MatB w b R C M) (hA : Box w gA (matV m R C b cap)) :
  Calls Tryz.prog 165 #[.int .i64 (i : Int), .int .i64 (r : Int), .pointer (some ⟨gA, 0, none⟩)] w fun e w' => (∃ v, e = .returned v) ∧ MatB w' b R C (swapM M i r) ∧ But b w w' := by
 have HRA := Lib.hid (fun i (hi : i < R) W => row_any m R C b cap i hi hR hC hC0 hcap W)
 have hC32 : (C : Int) ≤ 32 := by omega
 have H0 := Lib.hid (show ReB w b R C m cap M gA w from ⟨hM, hA, But.refl _ _⟩)
 have HX := Lib.hid (And.intro hi hr)
 clear hi hr hR hcap hM hA
 go_enter Tryz.func165, Tryz.ntmps165
 refine wp_seq (regU_begin (fun w' => ReB w b R C m cap M gA w') (by kernel_rfl) H0.out.drew ?_)
 refine regU_take 0 (v := .agg (matV m R C b cap)) rfl rfl (by decide +kernel) rfl (fun w' h => exec_ldM rfl rfl h.bA) ?_; simp only [zq1, zq2, zq3]
 (apply regU_take 1 rfl rfl (by decide +kernel) rfl); (intro w' hw'; go_simp; rfl); simp only [zq1, zq2, zq3]
 refine regU_call 2 (f := 153) (args := #[.agg (matV m R C b cap), .int .i64 (i : Int)]) (v := .slice (some ⟨b, i * C, none⟩) C (cap - i * C)) rfl rfl (by decide +kernel) rfl (fun w' => by kernel_rfl) (fun w' h => (HRA.out i HX.out.1 w').mono fun e w'' h' => ⟨h'.1, h.below h'.2⟩) ?_
 simp only [zq1, zq2, zq3]
 refine regU_take 3 (v := .agg (matV m R C b cap)) rfl rfl (by decide +kernel) rfl (fun w' h => exec_ldM rfl rfl h.bA) ?_; simp only [zq1, zq2, zq3]
 (apply regU_take 4 rfl rfl (by decide +kernel) rfl); (intro w' hw'; go_simp; rfl); simp only [zq1, zq2, zq3]
 refine regU_call 5 (f := 153) (args := #[.agg (matV m R C b cap), .int .i64 (r : Int)]) (v := .slice (some ⟨b, r * C, none⟩) C (cap - r * C)) rfl rfl (by decide +kernel) rfl (fun w' => by kernel_rfl) (fun w' h => (HRA.out r HX.out.2 w').mono fun e w'' h' => ⟨h'.1, h.below h'.2⟩) ?_
 simp only [zq1, zq2, zq3]
 (apply regU_take 6 rfl rfl (by decide +kernel) rfl); (intro w' hw'; go_simp; rfl); simp only [zq1, zq2, zq3]
 (apply regU_take 7 rfl rfl (by decide +kernel) rfl); (intro w' hw'; go_simp; rfl); simp only [zq1, zq2, zq3]
 refine regU_done (by decide +kernel) ?_
 intro w1 h1
 have H1 := Lib.hid h1
 obtain ⟨Pi, hPi⟩ : ∃ P, i * C = P := ⟨_, rfl⟩
 obtain ⟨Pr, hPr⟩ : ∃ P, r * C = P := ⟨_, rfl⟩
 rw [hPi, hPr]
 have HP := Lib.hid (And.intro hPi hPr)
 clear hPi hPr h1 H0
 go_wp2
 go_loopw [16] (fun k wr => SwSt w b R C i r M k wr) (fun k _ => C - (intOf k).toNat)
 case atStart => exact ⟨⟨0, Nat.zero_le _, rfl, by rw [swK_zero]; exact H1.out.bM, H1.out.bt⟩⟩
 case round =>
  obtain ⟨k, hk, rfl, hMk, hbt⟩ := hrel.st
  clear hrel
  by_cases hlt : k < C
  ·have hltd : decide ((k : Int) < (C : Int)) = true := decide_eq_true (by omega)
   have hwk : IntKind.i64.wrap ((k : Int) + 1) = (k : Int) + 1 := IntWalk.i64_in _ (by omega)
   have e1 := hMk.cell HX.out.1 hlt
   have e2 := hMk.cell HX.out.2 hlt
   rw [swK_at, HP.out.1] at e1
   rw [swK_at, HP.out.2] at e2
   have f1 := hMk.free (Pi + k)
   have f2 := hMk.free (Pr + k)
   have HK := Lib.hid (show MatB ((wr.setCell ⟨b, Pi + k, none⟩ (.int .i64 ((M r k : Nat) : Int))).setCell ⟨b, Pr + k, none⟩ (.int .i64 ((M i k : Nat) : Int))) b R C (swK M i r (k + 1)) ∧ But b w ((wr.setCell ⟨b, Pi + k, none⟩ (.int .i64 ((M r k : Nat) : Int))).setCell ⟨b, Pr + k, none⟩ (.int .i64 ((M i k : Nat) : Int))) by
    refine ⟨?_, (hbt.trans (But.set _ _ _ _)).trans (But.set _ _ _ _)⟩
    rw [← swK_set, ← HP.out.1, ← HP.out.2]
    exact (hMk.set hlt _).set hlt _)
   have hS1 : MatB (wr.setCell ⟨b, Pi + k, none⟩ (.int .i64 ((M r k : Nat) : Int))) b R C (setM (swK M i r k) i k (M r k)) := by
    rw [← HP.out.1]; exact hMk.set hlt _
   have e3 : (wr.setCell ⟨b, Pi + k, none⟩ (.int .i64 ((M r k : Nat) : Int))).cell? ⟨b, Pr + k, none⟩ = some (.int .i64 ((M r k : Nat) : Int)) := by
    have h := hS1.cell HX.out.2 hlt
    rw [HP.out.2, show setM (swK M i r k) i k (M r k) r k = M r k by unfold setM; split; rfl; exact swK_at _ _ _ _ _] at h
    exact h
   have f3 := hS1.free (Pr + k)
   have e4 : (wr.setCell ⟨b, Pi + k, none⟩ (.int .i64 ((M r k : Nat) : Int))).drew.cell? ⟨b, Pr + k, none⟩ = some (.int .i64 ((M r k : Nat) : Int)) := e3
   have f4 : (wr.setCell ⟨b, Pi + k, none⟩ (.int .i64 ((M r k : Nat) : Int))).drew.frozen? ⟨b, Pr + k, none⟩ = false := f3
   clear hMk hbt hS1
   go_wp2
   go_region
   clear e1 e2 e3 e4 f1 f2 f3 f4
   have HD := Lib.hid (And.intro (HK.out.1.keep (w' := ((wr.setCell ⟨b, Pi + k, none⟩ (.int .i64 ((M r k : Nat) : Int))).setCell ⟨b, Pr + k, none⟩ (.int .i64 ((M i k : Nat) : Int))).drew) rfl) HK.out.2.drew)
   clear HK
   generalize ((wr.setCell ⟨b, Pi + k, none⟩ (.int .i64 ((M r k : Nat) : Int))).setCell ⟨b, Pr + k, none⟩ (.int .i64 ((M i k : Nat) : Int))).drew = w3 at *
   go_wp2
   go_roundw
   case rel => exact ⟨⟨k + 1, hlt, rfl, HD.out.1, HD.out.2⟩⟩
   case measure => simp only [intOf]; omega
  ·have hke : k = C := by omega
   have hltd : decide ((k : Int) < (C : Int)) = false := decide_eq_false (by omega)
   have HF := Lib.hid (show MatB wr b R C (swapM M i r) by subst hke; exact hMk.congr fun a _ j hj => swK_all _ _ _ _ a j hj)
   have HB := Lib.hid hbt
   clear hMk hbt hke
   go_wp2
   go_end0
   exact ⟨⟨_, rfl⟩, HF.out, HB.out⟩
end Go.Proofs.YteikbikopgabjaaGreatDoor
namespace Go.Proofs.YteikbikopgabjaaGreatDoor
open Go.RowKit Go.GF Go.Sl
def OwnI (base : Nat) (w : World) (v : Value) (L : List Int) : Prop := w.ownsRow base TI 1 v L.length (intsV L)
theorem OwnI.nil (base : Nat) (w : World) : OwnI base w (.slice none 0 0) [] := World.ownsRow_nil w base TI 1
theorem OwnI.row {base : Nat} {w : World} {v : Value} {L : List Int} (h : OwnI base w v L) : RowI w v (intsV L) := by
 rcases h.2 with ⟨rfl, hn⟩ | ⟨g, cap, cur, rfl, hb, hg, h1, h2, h3, h4⟩
 ·have : L = [] := List.eq_nil_of_length_eq_zero hn
  subst this
  exact ⟨none, 0, rfl, Nat.le_refl _, by unfold maxLen; omega, fun h => absurd h (by simp [intsV])⟩
 ·refine ⟨some ⟨g, 0, none⟩, cap, by rw [intsV_len], by rw [intsV_len]; exact h1, h2, fun _ => ⟨g, 0, rfl, (Array.getElem?_eq_some_iff.1 hg).1, fun j u hu => ?_⟩⟩
  have := World.ownsRow.cells h (g := g) rfl j u hu
  rw [show (⟨g, 0, none⟩ : Addr).add j = ⟨g, 0 + j, none⟩ from Addr.add_mid _ _ _] at this
  exact this
theorem OwnI.keep {base : Nat} {w w' : World} {v : Value} {L : List Int} (h : OwnI base w v L) (hk : ∀ k, base ≤ k → k < w.heap.size → w'.heap[k]? = w.heap[k]?) : OwnI base w' v L := by
 refine ⟨h.1, ?_⟩
 rcases h.2 with h0 | ⟨g, cap, cur, hv, hb, hg, h1⟩
 ·exact .inl h0
 ·exact .inr ⟨g, cap, cur, hv, hb, by rw [hk g hb (Array.getElem?_eq_some_iff.1 hg).1]; exact hg, h1⟩
theorem OwnI.but {base b : Nat} {w w' : World} {v : Value} {L : List Int} (h : OwnI base w v L) (hb : But b w w') (hlt : b < base) : OwnI base w' v L := h.keep fun k h1 h2 => hb.block k h2 (by omega)
theorem OwnI.below {base : Nat} {w w' : World} {v : Value} {L : List Int} (h : OwnI base w v L) (hb : Below w.heap.size w w') : OwnI base w' v L := h.keep fun k _ h2 => hb.block k h2
theorem OwnI.mono {base base' : Nat} {w : World} {v : Value} {L : List Int} (h : OwnI base w v L) (hb : base' ≤ base) : OwnI base' w v L := by
 refine ⟨h.1, ?_⟩
 rcases h.2 with h0 | ⟨g, cap, cur, hv, hb', h1⟩
 ·exact .inl h0
 ·exact .inr ⟨g, cap, cur, hv, Nat.le_trans hb hb', h1⟩
theorem OwnI.shape {base : Nat} {w : World} {v : Value} {L : List Int} (h : OwnI base w v L) : ∃ ao cap, v = .slice ao L.length cap := by
 rcases h.2 with ⟨rfl, hn⟩ | ⟨g, cap, cur, rfl, -⟩
 ·exact ⟨none, 0, by rw [hn]⟩
 ·exact ⟨_, _, rfl⟩
theorem wpList_apI {ops : Array Oper} {rest : List Oper} {o : Oper} {a : Act} {Q : Exit → Act → World → Prop} {w : World} (hgd : o.guard = none) (s x : Operand)
  (ho : o.op = .call { callee := .builtin .append, args := #[s, x], argTypes := #[36, 36] }) {base : Nat} {v : Value} {L : List Int} {q : Nat} {z : Int} (hs : a.eval s = v) (hx : a.eval x = .slice (some ⟨q, 0, none⟩) 1 1)
  (hown : OwnI base w v L) (hc : w.cell? ⟨q, 0, none⟩ = some (.int .i64 z)) (hn : L.length ≤ 100000) (hbase : base ≤ w.heap.size)
  (h : ∀ v' w', OwnI base w' v' (L ++ [z]) → Below base w w' → wpList Tryz.prog ops Q rest (a.put o.dst v') w') : wpList Tryz.prog ops Q (o :: rest) a w := by
 obtain ⟨i0, hi, hz0, hz1, hz2⟩ := info_parts info_int3
 refine wpList_append_own w hgd s x 36 ho base TI i0 (.int .i64 0) 1 8 Tryz.underlying36 hi hz0 hz1 hz2 rfl (by decide) v L.length (intsV L) hs hown ⟨q, 0, none⟩ 1 1 [.int .i64 z] hx rfl ?_ ?_ (by unfold maxLen; omega) (by omega) hbase ?_
 ·intro j u hu
  match j, hu with
  | 0, hu =>
   simp at hu
   subst hu
   rw [Addr.add_mid]
   exact hc
 ·intro u hu
  simp at hu; subst hu; rfl
 ·intro v' w' h1 h2 _
  refine h v' w' ?_ ((Below.refl base w).grown h2 hbase fun k hk => (World.ownsRow.lt hown k hk).1)
  show w'.ownsRow base TI 1 v' (L ++ [z]).length (intsV (L ++ [z]))
  rw [show intsV (L ++ [z]) = intsV L ++ [.int .i64 z] by unfold intsV; simp, List.length_append]
  exact h1
theorem wpList_apN {ops : Array Oper} {rest : List Oper} {o : Oper} {a : Act} {Q : Exit → Act → World → Prop} {w : World} {t : TypeId} (hgd : o.guard = none) (s x : Operand)
  (ho : o.op = .call { callee := .builtin .append, args := #[s, x], argTypes := #[36, 36] }) {base : Nat} {v : Value} {L : List Int} {z : Int} (hs : a.eval s = v) (hx : a.eval x = .slice (some ⟨w.heap.size, 0, none⟩) 1 1)
  (hown : OwnI base w v L) (hn : L.length ≤ 100000) (hbase : base ≤ w.heap.size)
  (h : ∀ v' w', OwnI base w' v' (L ++ [z]) → Below base (w.alloc (.cells #[.int .i64 z] t)) w' → wpList Tryz.prog ops Q rest (a.put o.dst v') w') : wpList Tryz.prog ops Q (o :: rest) a (w.alloc (.cells #[.int .i64 z] t)) := by
 refine wpList_apI hgd s x ho hs hx (hown.below (al_below w _)) ?_ hn (Nat.le_trans hbase (al_below w _).size) h
 unfold World.cell?
 rw [show (w.alloc (.cells #[.int .i64 z] t)).heap[w.heap.size]? = _ from World.alloc_heap_new w _]; rfl
end Go.Proofs.YteikbikopgabjaaGreatDoor
