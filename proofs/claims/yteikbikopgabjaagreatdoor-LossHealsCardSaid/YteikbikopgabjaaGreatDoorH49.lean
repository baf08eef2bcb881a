import Derived.Test.YteikbikopgabjaaGreatDoorH48
import Derived.Test.YteikbikopgabjaaGreatDoorH26
/- Part 49 of a proof; the last part says what is proved. -/
namespace Go.Sl
open Go Go.RowKit
section
variable {P : Program} {ops : Array Oper} {Q : Exit → Act → World → Prop} {S : World → Prop} {fuel : Nat} {listed : Array Bool} {t : Array Value} {df : List Deferred} {w : World}
end
end Go.Sl
namespace Go.Proofs.YteikbikopgabjaaGreatDoor
open Go.RowKit Go.Sha Go.Sl
attribute [local go_sem high] o_xor o_and o_or o_add
abbrev TA4 : TypeId := 236
def zA4 : Array Value := Array.replicate 4 (.int .u32 0)
theorem zeroA4 (w : World) : (zeroValue TA4).run Tryz.prog w = .ok (.agg zA4) w := by kernel_rfl
theorem infoA4 {c : Array Value} (h : c.size = 4) : (Tryz.prog.info? TA4).map (·.size) = some c.size := by rw [h]; kernel_rfl
theorem load_a4 {w : World} {g off : Nat} {f : Nat → Nat} (hb : w.heap[g]? = some (.cells (arr 8 f) TV (0, 0))) (hk : off + 4 ≤ 8) : (loadVar TA4 ⟨g, off, none⟩).run Tryz.prog w = .ok (.agg (arr 4 fun j => f (off + j))) w := by
 have := run_loadVar_mid (P := Tryz.prog) w g off TA4 (arr 4 fun j => f (off + j)).toList _ (fun j v hv => by
  rw [Array.getElem?_toList] at hv
  have hj : j < 4 := by have := (Array.getElem?_eq_some_iff.1 hv).1; rwa [arr_size] at this
  rw [arr_at _ _ hj] at hv
  rw [cells_at hb, arr_at _ _ (by omega)]; exact hv) Tryz.underlying236 rfl (by rw [Array.length_toList, arr_size]; kernel_rfl)
 rwa [Array.toArray_toList] at this
theorem o_not (a : Nat) : Op.unary .xor (.int .u32 (a : Int)) = pure (.int .u32 ((xor32 a 4294967295 : Nat) : Int)) := by
 rw [xor32_comm]
 exact o_xor 0 4294967295 a
theorem exec_not {a : Act} {o : Oper} {w : World} {x : Operand} {T : TypeId} {n : Nat} (ho : o.op = .unOp .xor T x) (hx : a.eval x = .int .u32 (n : Int)) : (execOp a.eval o).run Tryz.prog w = .ok (.value (.int .u32 ((xor32 n 4294967295 : Nat) : Int))) w := by
 unfold execOp
 simp only [ho, hx, o_not, Sem.run_bind, Sem.run_pure, Result.andThen_ok]
theorem exec_indexW {a : Act} {o : Oper} {w : World} {x y : Operand} {A : Array Value} {i n : Nat} (ho : o.op = .index TW x y) (hx : a.eval x = .agg A) (hy : a.eval y = .int .i64 (i : Int)) (hi : i < 64) (hv : A[i]? = some (.int .u32 (n : Int))) :
  (execOp a.eval o).run Tryz.prog w = .ok (.value (.int .u32 (n : Int))) w := by
 have h1 : Tryz.prog.underlying TW = some (.array 64 T32) := Tryz.underlying221
 have h2 : Tryz.prog.underlying T32 = some (.int .u32) := Tryz.underlying86
 obtain ⟨ti, hti, hts⟩ := Option.map_eq_some_iff.1 info_u32
 unfold execOp
 simp only [ho, hx, hy]
 simp [Instr.index, asIntOf, run_underlying h1, run_underlying h2, sizeOf, typeInfo, hti, hts, hi, part, isAgg, hv, go_sem]
theorem exec_ixA4 {a : Act} {o : Oper} {w : World} {b : Nat} {z : Int} {x y : Operand} (ho : o.op = .indexAddr TA4 x y) (hx : a.eval x = .pointer (some ⟨b, 0, none⟩)) (hy : a.eval y = .int .i64 z) (h0 : 0 ≤ z) (h8 : z < 4) :
  (execOp a.eval o).run Tryz.prog w = .ok (.value (.pointer (some ⟨b, z.toNat, none⟩))) w := by
 obtain ⟨i, rfl⟩ := Int.eq_ofNat_of_zero_le h0
 obtain ⟨ti, hti, hts⟩ := Option.map_eq_some_iff.1 info_u32
 have h := exec_index_array (P := Tryz.prog) (w := w) ho hx hy Tryz.underlying236 hti hts (by omega)
 rwa [Nat.mul_one, Nat.zero_add] at h
structure CmW (w0 : World) (g6 g7 : Nat) (GG : HProp) (v : St) (wr : World) : Prop where
 same : Same w0 wr
 sat : Sat wr (pts g6 (.cells (arr 4 (st8 v)) TA4 (0, 0)) * (pts g7 (.cells (arr 4 fun j => st8 v (4 + j)) TA4 (0, 0)) * GG))
section
variable {w0 wr w' : World} {g6 g7 : Nat} {GG : HProp} {v : St}
theorem CmW.below (h : CmW w0 g6 g7 GG v wr) (hb : Below wr.heap.size wr w') : CmW w0 g6 g7 GG v w' := ⟨h.same.below hb, h.sat.below hb⟩
theorem CmW.drew (h : CmW w0 g6 g7 GG v wr) : CmW w0 g6 g7 GG v wr.drew := h.below (Below.refl _ _).drew
theorem CmW.sat7 (h : CmW w0 g6 g7 GG v wr) : Sat wr (pts g7 (.cells (arr 4 fun j => st8 v (4 + j)) TA4 (0, 0)) * (pts g6 (.cells (arr 4 (st8 v)) TA4 (0, 0)) * GG)) := h.sat.perm (by ac_rfl)
theorem CmW.c6 (h : CmW w0 g6 g7 GG v wr) {j : Nat} (hj : j < 4) : wr.cell? ⟨g6, j, none⟩ = some (.int .u32 ((st8 v j : Nat) : Int)) := by rw [cells_at h.sat.block]; exact arr_at 4 _ hj
theorem CmW.c7 (h : CmW w0 g6 g7 GG v wr) {j : Nat} (hj : j < 4) : wr.cell? ⟨g7, j, none⟩ = some (.int .u32 ((st8 v (4 + j) : Nat) : Int)) := by rw [cells_at h.sat7.block]; exact arr_at 4 _ hj
end
structure CmpS (w0 : World) (g6 g7 : Nat) (GG : HProp) (B : Nat → Nat) (s0 : St) (tv : Value) (wr : World) : Prop where
 st : ∃ t : Nat, t ≤ 64 ∧ tv = .int .i64 (t : Int) ∧ CmW w0 g6 g7 GG (roundsM (wordsM B 64) s0 t) wr
def plF (s v : Nat → Nat) (i j : Nat) : Nat := if j < i ∨ (4 ≤ j ∧ j < 4 + i) then add32 (s j) (v j) else s j
def plF' (s v : Nat → Nat) (i j : Nat) : Nat := if j = i then add32 (s i) (v i) else plF s v i j
theorem plF_next (s v : Nat → Nat) {i : Nat} (hi : i < 4) : (fun j => if j = i + 4 then add32 (s (i + 4)) (v (i + 4)) else plF' s v i j) = plF s v (i + 1) := by
 funext j
 unfold plF' plF
 by_cases h1 : j = i + 4
 ·subst h1; rw [if_pos rfl, if_pos (by omega)]
 ·rw [if_neg h1]
  by_cases h2 : j = i
  ·subst h2; rw [if_pos rfl, if_pos (by omega)]
  ·rw [if_neg h2]
   by_cases h3 : j < i ∨ (4 ≤ j ∧ j < 4 + i)
   ·rw [if_pos h3, if_pos (by omega)]
   ·rw [if_neg h3, if_neg (by omega)]
structure CpW (w0 : World) (g2 g6 g7 : Nat) (G1 : HProp) (f : Nat → Nat) (v : St) (wr : World) : Prop where
 same : Same w0 wr
 sat : Sat wr (pts g2 (.cells (arr 8 f) TV (0, 0)) * (pts g6 (.cells (arr 4 (st8 v)) TA4 (0, 0)) * (pts g7 (.cells (arr 4 fun j => st8 v (4 + j)) TA4 (0, 0)) * G1)))
section
variable {w0 wr w' : World} {g2 g6 g7 : Nat} {G1 : HProp} {v : St} {f : Nat → Nat}
theorem CpW.below (h : CpW w0 g2 g6 g7 G1 f v wr) (hb : Below wr.heap.size wr w') : CpW w0 g2 g6 g7 G1 f v w' := ⟨h.same.below hb, h.sat.below hb⟩
theorem CpW.drew (h : CpW w0 g2 g6 g7 G1 f v wr) : CpW w0 g2 g6 g7 G1 f v wr.drew := h.below (Below.refl _ _).drew
theorem CpW.cm (h : CpW w0 g2 g6 g7 G1 f v wr) : CmW w0 g6 g7 (pts g2 (.cells (arr 8 f) TV (0, 0)) * G1) v wr := ⟨h.same, h.sat.perm (by ac_rfl)⟩
theorem CpW.c2 (h : CpW w0 g2 g6 g7 G1 f v wr) {j : Nat} (hj : j < 8) : wr.cell? ⟨g2, 0 + j, none⟩ = some (.int .u32 ((f j : Nat) : Int)) := by rw [cells_at h.sat.block, Nat.zero_add]; exact arr_at 8 _ hj
theorem CpW.free (h : CpW w0 g2 g6 g7 G1 f v wr) (j : Nat) : wr.frozen? ⟨g2, 0 + j, none⟩ = false := thawed_at h.sat.block _
theorem CpW.set (h : CpW w0 g2 g6 g7 G1 f v wr) (i x : Nat) : CpW w0 g2 g6 g7 G1 (fun j => if j = i then x else f j) v (wr.setCell ⟨g2, 0 + i, none⟩ (.int .u32 (x : Int))) := by
 rw [Nat.zero_add]
 refine ⟨h.same.setCell _ _, ?_⟩
 have h2 := h.sat.setCell (i := i) (.int .u32 (x : Int))
 rwa [arr_set] at h2
theorem CpW.congr {f' : Nat → Nat} (h : CpW w0 g2 g6 g7 G1 f v wr) (e : f = f') : CpW w0 g2 g6 g7 G1 f' v wr := e ▸ h
end
structure CpS (w0 : World) (g2 g6 g7 : Nat) (G1 : HProp) (s : Nat → Nat) (v : St) (iv : Value) (wr : World) : Prop where
 st : ∃ i : Nat, i ≤ 4 ∧ iv = .int .i64 (i : Int) ∧ CpW w0 g2 g6 g7 G1 (plF s (st8 v) i) v wr
def TabD (w : World) : Prop := ∀ j, j < 64 → w.cell? ⟨2, j, none⟩ = some (.int .u32 ((kM j : Nat) : Int))
theorem TabD.below {w w' : World} (h : TabD w) (hb : Below w.heap.size w w') : TabD w' := fun j hj => (hb.cell (World.block_lt_of_cell? _ _ (h j hj))).trans (h j hj)
set_option maxRecDepth 100000 in
set_option maxHeartbeats 8000000 in
theorem compress_any (s0 : St) (hs0 : s0.Ok) (B : Nat → Nat) (hB : ∀ j, B j < 256) (b off cap : Nat) (hcap : 64 ≤ cap) (w : World) (hby : ∀ j, j < 64 → w.cell? ⟨b, off + j, none⟩ = some (.int .u8 ((B j : Nat) : Int))) (hD : TabD w) :
  Calls Tryz.prog 130 #[.agg (arr 8 (st8 s0)), .slice (some ⟨b, off, none⟩) 64 cap] w fun e w' => e = .returned (.agg (arr 8 (st8 (blockM s0 B)))) ∧ Below w.heap.size w w' := by
 obtain ⟨s, hs⟩ : ∃ s, s = st8 s0 := ⟨_, rfl⟩
 have HS0 := Lib.hid hs
 have HOK0 := Lib.hid hs0
 rw [← hs]
 clear hs hs0
 have HBY := Lib.hid (fun W (hb : Below w.heap.size w W) j (hj : j < 64) => (hb.cell (p := ⟨b, off + j, none⟩) (World.block_lt_of_cell? _ _ (hby j hj))).trans (hby j hj))
 have HSC := Lib.hid (fun W (hb : Below w.heap.size w W) => schedule_any B hB b off cap hcap W (fun j hj => (hb.cell (p := ⟨b, off + j, none⟩) (World.block_lt_of_cell? _ _ (hby j hj))).trans (hby j hj)))
 have HW0 := Lib.hid (show Same w ((w.alloc (.cells (arr 8 s) TV)).alloc (.cells zV TV)) ∧ Sat ((w.alloc (.cells (arr 8 s) TV)).alloc (.cells zV TV)) (pts (w.heap.size + 1) (.cells zV TV (0, 0)) * (pts w.heap.size (.cells (arr 8 s) TV (0, 0)) * old w)) from
  ⟨((Same.refl w).alloc _).alloc _, by
   have h := ((Sat.old w).alloc (.cells (arr 8 s) TV)).alloc (.cells zV TV)
   rw [show (w.alloc (.cells (arr 8 s) TV)).heap.size = w.heap.size + 1 by simp] at h
   exact h⟩)
 have HTD := Lib.hid (fun W (hb : Below w.heap.size w W) => hD.below hb)
 clear hby hB hD
 have HSA := Lib.hid (And.intro (arr_size 8 s) (arr_one 8 s))
 obtain ⟨A8, hA8⟩ : ∃ A, A = arr 8 s := ⟨_, rfl⟩
 have HA8 := Lib.hid hA8
 rw [← hA8] at HW0 HSA ⊢
 clear hA8
 go_enter Tryz.func130, Tryz.ntmps130
 go_upto_region 1 with ((with_reducible (refine wpList_alloc_zero ?_ TV ?_ _ (zeroV _) ?_)); rfl; rfl)
 generalize (w.alloc (.cells A8 TV)).alloc (.cells zV TV) = w1 at HW0 ⊢
 rw [show (w.alloc (.cells A8 TV)).heap.size = w.heap.size + 1 by simp]
 generalize hg2 : w.heap.size = g2 at HW0 ⊢
 have HG2 := Lib.hid hg2
 clear hg2
 generalize g2 + 1 = g4 at HW0 ⊢
 have HB1 := Lib.hid (HW0.out.1.below_of (HW0.out.2.perm (show _ = (pts g4 (.cells zV TV (0, 0)) * pts g2 (.cells A8 TV (0, 0))) * old w by ac_rfl)))
 go_upto_region 2 with (first
  | (go_at_call 150; refine (HSC.out w1 HB1.out).mono ?_; rintro e w2 ⟨rfl, h2⟩; have HS2 := Lib.hid (And.intro (HW0.out.1.below h2) (HW0.out.2.below h2)); have HA2 := Lib.hid (And.intro (HS2.out.1.alloc (.cells zW TW)) (HS2.out.2.alloc (.cells zW TW))); clear h2 HS2)
  | ((with_reducible (refine wpList_alloc_zero ?_ TW ?_ _ (zeroW _) ?_)); rfl; rfl; generalize w2.alloc (.cells zW TW) = w3 at HA2 ⊢; generalize w2.heap.size = g5 at HA2 ⊢)
  | (refine wpList_store_blk (T := TW) (old := zW) (new := arr 64 (wv B)) rfl rfl rfl rfl HA2.out.2 (infoW (arr_size _ _)) (by rw [arr_size]; simp [zW]) (arr_one _ _) ?_; intro w4 h4))
 have HW4 := Lib.hid (And.intro (HA2.out.1.trans h4.out.1) h4.out.2)
 clear h4 HA2 HB1 HW0
 obtain ⟨vA, hvA⟩ : ∃ A, A = arr 4 s := ⟨_, rfl⟩
 obtain ⟨eA, heA⟩ : ∃ A, A = arr 4 (fun j => s (4 + j)) := ⟨_, rfl⟩
 have HSZ := Lib.hid (show vA.size = 4 ∧ eA.size = 4 by rw [hvA, heA]; exact ⟨arr_size _ _, arr_size _ _⟩)
 have HON := Lib.hid (show (∀ v ∈ vA.toList, v.oneCell' = true) ∧ ∀ v ∈ eA.toList, v.oneCell' = true by rw [hvA, heA]; exact ⟨arr_one _ _, arr_one _ _⟩)
 have HL1 := Lib.hid (fun W (h : W.heap[g2]? = some (.cells A8 TV (0, 0))) => show (loadVar TA4 ⟨g2, 0, none⟩).run Tryz.prog W = .ok (.agg vA) W by rw [hvA]; rw [HA8.out] at h; have := load_a4 (off := 0) h (by omega); simpa only [Nat.zero_add] using this)
 have HL2 := Lib.hid (fun W (h : W.heap[g2]? = some (.cells A8 TV (0, 0))) => show (loadVar TA4 ⟨g2, 4, none⟩).run Tryz.prog W = .ok (.agg eA) W by rw [heA]; rw [HA8.out] at h; exact load_a4 (off := 4) h (by omega))
 have HVE := Lib.hid (And.intro hvA heA)
 clear hvA heA
 obtain ⟨G1, hG1⟩ : ∃ G, G = pts g5 (.cells (arr 64 (wv B)) TW (0, 0)) * (pts g4 (.cells zV TV (0, 0)) * old w) := ⟨_, rfl⟩
 have HG1 := Lib.hid hG1
 obtain ⟨GG, hGG⟩ : ∃ G, G = pts g2 (.cells A8 TV (0, 0)) * G1 := ⟨_, rfl⟩
 have HGG := Lib.hid hGG
 have H := Lib.hid (show Same w w4 ∧ Sat w4 GG from ⟨HW4.out.1, HW4.out.2.perm (by rw [hGG, hG1]; ac_rfl)⟩)
 clear hG1 hGG HW4
 go_upto_region 2 with (fail)
 have hS0 : w4.drew.heap[g2]? = some (.cells A8 TV (0, 0)) := (H.out.2.perm (show _ = pts g2 (.cells A8 TV (0, 0)) * G1 by rw [HGG.out])).block
 replace H := Lib.hid (And.intro H.out.1.drew H.out.2.drew)
 refine reg_begin (fun w' => w'.heap[g2]? = some (.cells A8 TV (0, 0))) (by kernel_rfl) ?_
 generalize w4.drew = wk at H hS0 ⊢
 (apply reg_take 0 rfl rfl (by decide +kernel) rfl); (rintro w' h1; go_simp; rfl); exact hS0; simp only [zq1, zq2, zq3]
 (apply reg_take 1 rfl rfl (by decide +kernel) rfl); (rintro w' h1; go_simp; rfl); exact hS0; simp only [zq1, zq2, zq3]
 refine reg_take 2 (v := .agg vA) rfl rfl (by decide +kernel) rfl (fun w' h => exec_load_mid rfl rfl (HL1.out w' h)) hS0 ?_; simp only [zq1, zq2, zq3]
 (apply reg_take 3 rfl rfl (by decide +kernel) rfl); (rintro w' h1; go_simp; rfl); exact hS0; simp only [zq1, zq2, zq3]
 (apply reg_take 4 rfl rfl (by decide +kernel) rfl); (rintro w' h1; go_simp; rfl); exact hS0; simp only [zq1, zq2, zq3]
 refine reg_take 5 (v := .agg eA) rfl rfl (by decide +kernel) rfl (fun w' h => exec_load_mid rfl rfl (HL2.out w' h)) hS0 ?_; simp only [zq1, zq2, zq3]
 apply reg_cutT2 (K := fun g6 g7 w' => Hid (Same w w' ∧ Sat w' (pts g6 (.cells vA TA4 (0, 0)) * (pts g7 (.cells eA TA4 (0, 0)) * GG))))
 ·refine reg_fork 6 7 (by decide +kernel) ?_ ?_
  ·refine rstep_run (i := 6) (.pointer (some ⟨wk.heap.size, 0, none⟩)) (wk.alloc (.cells zA4 TA4)) rfl rfl (by decide +kernel) rfl (exec_alloc_zero rfl _ (zeroA4 _)) (((H.out.2.alloc (.cells zA4 TA4)).perm (show _ = pts g2 (.cells A8 TV (0, 0)) * (pts wk.heap.size (.cells zA4 TA4 (0, 0)) * (G1)) by rw [HGG.out]; ac_rfl)).block) ?_; simp only [zq1, zq2, zq3]
   replace H := Lib.hid (And.intro (H.out.1.alloc (.cells zA4 TA4)) (H.out.2.alloc (.cells zA4 TA4)))
   generalize wk.alloc (.cells zA4 TA4) = wka at H ⊢
   generalize wk.heap.size = g6 at H ⊢
   refine reg_run 7 (.pointer (some ⟨wka.heap.size, 0, none⟩)) (wka.alloc (.cells zA4 TA4)) rfl rfl (by decide +kernel) rfl (exec_alloc_zero rfl _ (zeroA4 _)) (((H.out.2.alloc (.cells zA4 TA4)).perm (show _ = pts g2 (.cells A8 TV (0, 0)) * (pts wka.heap.size (.cells zA4 TA4 (0, 0)) * (pts g6 (.cells zA4 TA4 (0, 0)) * (G1))) by rw [HGG.out]; ac_rfl)).block) ?_; simp only [zq1, zq2, zq3]
   replace H := Lib.hid (And.intro (H.out.1.alloc (.cells zA4 TA4)) (H.out.2.alloc (.cells zA4 TA4)))
   generalize wka.alloc (.cells zA4 TA4) = wkaa at H ⊢
   generalize wka.heap.size = g7 at H ⊢
   refine reg_store_blk 8 (T := TA4) (old := zA4) (new := vA) rfl rfl (by decide +kernel) rfl rfl rfl rfl (H.out.2.perm (show _ = pts g6 (.cells zA4 TA4 (0, 0)) * (pts g7 (.cells zA4 TA4 (0, 0)) * (GG)) by ac_rfl)) (infoA4 HSZ.out.1) (by rw [HSZ.out.1]; rfl) HON.out.1 ?_
   intro wkaas h9
   replace H := Lib.hid (And.intro (H.out.1.trans h9.out.1) h9.out.2)
   clear h9
   refine ⟨(H.out.2.perm (show _ = pts g2 (.cells A8 TV (0, 0)) * (pts g6 (.cells vA TA4 (0, 0)) * (pts g7 (.cells zA4 TA4 (0, 0)) * (G1))) by rw [HGG.out]; ac_rfl)).block, ?_⟩
   refine reg_store_blk 9 (T := TA4) (old := zA4) (new := eA) rfl rfl (by decide +kernel) rfl rfl rfl rfl (H.out.2.perm (show _ = pts g7 (.cells zA4 TA4 (0, 0)) * (pts g6 (.cells vA TA4 (0, 0)) * (GG)) by ac_rfl)) (infoA4 HSZ.out.2) (by rw [HSZ.out.2]; rfl) HON.out.2 ?_
   intro wkaass h9
   replace H := Lib.hid (And.intro (H.out.1.trans h9.out.1) h9.out.2)
   clear h9
   refine ⟨(H.out.2.perm (show _ = pts g2 (.cells A8 TV (0, 0)) * (pts g7 (.cells eA TA4 (0, 0)) * (pts g6 (.cells vA TA4 (0, 0)) * (G1))) by rw [HGG.out]; ac_rfl)).block, ?_⟩
   refine reg_done (by decide +kernel) ?_
   exact ⟨g6, g7, rfl, Lib.hid ⟨H.out.1, H.out.2.perm (by ac_rfl)⟩⟩
  ·refine rstep_run (i := 7) (.pointer (some ⟨wk.heap.size, 0, none⟩)) (wk.alloc (.cells zA4 TA4)) rfl rfl (by decide +kernel) rfl (exec_alloc_zero rfl _ (zeroA4 _)) (((H.out.2.alloc (.cells zA4 TA4)).perm (show _ = pts g2 (.cells A8 TV (0, 0)) * (pts wk.heap.size (.cells zA4 TA4 (0, 0)) * (G1)) by rw [HGG.out]; ac_rfl)).block) ?_; simp only [zq1, zq2, zq3]
   replace H := Lib.hid (And.intro (H.out.1.alloc (.cells zA4 TA4)) (H.out.2.alloc (.cells zA4 TA4)))
   generalize wk.alloc (.cells zA4 TA4) = wka at H ⊢
   generalize wk.heap.size = g7 at H ⊢
   refine reg_run 6 (.pointer (some ⟨wka.heap.size, 0, none⟩)) (wka.alloc (.cells zA4 TA4)) rfl rfl (by decide +kernel) rfl (exec_alloc_zero rfl _ (zeroA4 _)) (((H.out.2.alloc (.cells zA4 TA4)).perm (show _ = pts g2 (.cells A8 TV (0, 0)) * (pts wka.heap.size (.cells zA4 TA4 (0, 0)) * (pts g7 (.cells zA4 TA4 (0, 0)) * (G1))) by rw [HGG.out]; ac_rfl)).block) ?_; simp only [zq1, zq2, zq3]
   replace H := Lib.hid (And.intro (H.out.1.alloc (.cells zA4 TA4)) (H.out.2.alloc (.cells zA4 TA4)))
   generalize wka.alloc (.cells zA4 TA4) = wkaa at H ⊢
   generalize wka.heap.size = g6 at H ⊢
   refine reg_store_blk 8 (T := TA4) (old := zA4) (new := vA) rfl rfl (by decide +kernel) rfl rfl rfl rfl (H.out.2.perm (show _ = pts g6 (.cells zA4 TA4 (0, 0)) * (pts g7 (.cells zA4 TA4 (0, 0)) * (GG)) by ac_rfl)) (infoA4 HSZ.out.1) (by rw [HSZ.out.1]; rfl) HON.out.1 ?_
   intro wkaas h9
   replace H := Lib.hid (And.intro (H.out.1.trans h9.out.1) h9.out.2)
   clear h9
   refine ⟨(H.out.2.perm (show _ = pts g2 (.cells A8 TV (0, 0)) * (pts g6 (.cells vA TA4 (0, 0)) * (pts g7 (.cells zA4 TA4 (0, 0)) * (G1))) by rw [HGG.out]; ac_rfl)).block, ?_⟩
   refine reg_store_blk 9 (T := TA4) (old := zA4) (new := eA) rfl rfl (by decide +kernel) rfl rfl rfl rfl (H.out.2.perm (show _ = pts g7 (.cells zA4 TA4 (0, 0)) * (pts g6 (.cells vA TA4 (0, 0)) * (GG)) by ac_rfl)) (infoA4 HSZ.out.2) (by rw [HSZ.out.2]; rfl) HON.out.2 ?_
   intro wkaass h9
   replace H := Lib.hid (And.intro (H.out.1.trans h9.out.1) h9.out.2)
   clear h9
   refine ⟨(H.out.2.perm (show _ = pts g2 (.cells A8 TV (0, 0)) * (pts g7 (.cells eA TA4 (0, 0)) * (pts g6 (.cells vA TA4 (0, 0)) * (G1))) by rw [HGG.out]; ac_rfl)).block, ?_⟩
   refine reg_done (by decide +kernel) ?_
   exact ⟨g6, g7, rfl, Lib.hid ⟨H.out.1, H.out.2.perm (by ac_rfl)⟩⟩
 intro g6 g7 w5 hx
 have H0 := Lib.hid (show CmW w g6 g7 GG s0 w5 from ⟨hx.out.1, by
  have h := hx.out.2
  rw [HVE.out.1, HVE.out.2, HS0.out] at h
  exact h⟩)
 have HGB := Lib.hid (show ∀ W X, Same w W → Sat W (X * GG) → Below w.heap.size w W from fun W X h1 h2 => by
  rw [HGG.out, HG1.out] at h2
  exact h1.below_of (h2.perm (show _ = (X * (pts g2 (.cells A8 TV (0, 0)) * (pts g5 (.cells (arr 64 (wv B)) TW (0, 0)) * pts g4 (.cells zV TV (0, 0))))) * old w by ac_rfl)))
 have HG5 := Lib.hid (show ∀ W X, Sat W (X * GG) → ∀ j, j < 64 → W.cell? ⟨g5, 0 + j * 1, none⟩ = some (.int .u32 ((wv B j : Nat) : Int)) from fun W X h2 j hj => by
  rw [HGG.out, HG1.out] at h2
  rw [cells_at (h2.perm (show _ = pts g5 (.cells (arr 64 (wv B)) TW (0, 0)) * (X * (pts g2 (.cells A8 TV (0, 0)) * (pts g4 (.cells zV TV (0, 0)) * old w))) by ac_rfl)).block, Nat.zero_add, Nat.mul_one]
  exact arr_at 64 _ hj)
 clear hx H hS0 HL1 HL2 HVE HSZ HON
 have hkt := HTD.out w5 (HGB.out w5 _ H0.out.same (H0.out.sat.perm (show _ = (pts g6 (.cells (arr 4 (st8 s0)) TA4 (0, 0)) * pts g7 (.cells (arr 4 fun j => st8 s0 (4 + j)) TA4 (0, 0))) * GG by ac_rfl)))
 have HKL := Lib.hid (show (loadVar TW ⟨2, 0, none⟩).run Tryz.prog w5 = .ok (.agg (arr 64 kM)) w5 by
  have := run_loadVar_mid (P := Tryz.prog) w5 2 0 TW (arr 64 kM).toList _ (fun j v hv => by
   rw [Array.getElem?_toList] at hv
   have hj : j < 64 := by have := (Array.getElem?_eq_some_iff.1 hv).1; rwa [arr_size] at this
   rw [arr_at _ _ hj] at hv
   rw [Nat.zero_add, hkt j hj]; exact hv) Tryz.underlying221 rfl (by rw [Array.length_toList, arr_size]; kernel_rfl)
  rwa [Array.toArray_toList] at this)
 have HKA := Lib.hid (fun t (ht : t < 64) => arr_at 64 kM ht)
 generalize arr 64 kM = KA at HKL HKA
 clear hkt
 go_upto_region 3 with (fail)
 refine wp_region_lit ?_
 refine wpList_runG (v := .agg KA) rfl (exec_load_mid rfl rfl HKL.out) ?_; simp only [Act.put, zq1, zq2, zq3]
 (apply wpList_runG rfl); (go_simp; first | rfl | exact ⟨rfl, rfl⟩); simp only [Act.put, zq1, zq2, zq3]
 refine wpList_nil ?_
 go_wp2
 go_loopw [22] (fun tv wr => CmpS w g6 g7 GG B s0 tv wr) (fun tv _ => 64 - (intOf tv).toNat)
 case atStart => exact ⟨⟨0, by omega, rfl, H0.out⟩⟩
 case round =>
  clear H0 HKL
  obtain ⟨t, ht, rfl, hW⟩ := hrel.st
  clear hrel
  have HW := Lib.hid hW
  clear hW
  by_cases htl : t < 64
  ·have htd : decide ((t : Int) < 64) = true := decide_eq_true (by omega)
   have hwt : IntKind.i64.wrap ((t : Int) + 1) = (t : Int) + 1 := IntWalk.i64_in _ (by omega)
   have HOK := Lib.hid (roundsM_ok HOK0.out (wordsM B 64) t)
   have HRD := Lib.hid (wv_rounds B s0 t)
   generalize roundsM (wordsM B 64) s0 t = v at HW HOK HRD
   have HVa := Lib.hid HOK.out.1
   have HVe := Lib.hid HOK.out.2.2.2.2.1
   go_upto_region 5 with (fail)
   refine wp_region_lit ?_
   (apply wpList_runG rfl); (go_simp; first | rfl | exact ⟨rfl, rfl⟩); simp only [Act.put, zq1, zq2, zq3]
   refine wpList_runG (v := .int .u32 ((kM t : Nat) : Int)) rfl (exec_indexW rfl rfl rfl htl (HKA.out t htl)) ?_; simp only [Act.put, zq1, zq2, zq3]
   (apply wpList_runG rfl); (go_simp; first | rfl | exact ⟨rfl, rfl⟩); simp only [Act.put, zq1, zq2, zq3]
   (apply wpList_runG rfl); (go_simp; first | rfl | exact ⟨rfl, rfl⟩); simp only [Act.put, zq1, zq2, zq3]
   refine wpList_nil ?_
   ·go_upto_region 6 with (fail)
    refine regU_begin (fun w' => CmW w g6 g7 GG v w') (by kernel_rfl) HW.out.drew ?_
    refine regU_take 0 (v := .pointer (some ⟨g7, 3, none⟩)) rfl rfl (by decide +kernel) rfl (fun w' h => exec_ixA4 (z := 3) rfl rfl rfl (by decide) (by decide)) ?_; simp only [zq1, zq2, zq3]
    refine regU_take 1 (v := .int .u32 ((v.h : Nat) : Int)) rfl rfl (by decide +kernel) rfl (fun w' h => exec_load_cell rfl rfl Tryz.underlying86 rfl (CmW.c7 h (j := 3) (by decide))) ?_; simp only [zq1, zq2, zq3]
    refine regU_take 2 (v := .pointer (some ⟨g7, 0, none⟩)) rfl rfl (by decide +kernel) rfl (fun w' h => exec_ixA4 (z := 0) rfl rfl rfl (by decide) (by decide)) ?_; simp only [zq1, zq2, zq3]
    refine regU_take 3 (v := .int .u32 ((v.e : Nat) : Int)) rfl rfl (by decide +kernel) rfl (fun w' h => exec_load_cell rfl rfl Tryz.underlying86 rfl (CmW.c7 h (j := 0) (by decide))) ?_; simp only [zq1, zq2, zq3]
    refine regU_call 4 (f := 151) (args := #[.int .u32 ((v.e : Nat) : Int), .int .i64 6, .int .i64 11, .int .i64 25]) (v := .int .u32 ((mixM v.e 6 11 25 : Nat) : Int)) rfl rfl (by decide +kernel) rfl (fun w' => by kernel_rfl) (fun w' h => (mix_any _ HVe.out 6 11 25 6 11 25 ⟨rfl, by omega, by omega⟩ ⟨rfl, by omega, by omega⟩ ⟨rfl, by omega, by omega⟩ w').mono fun e w'' h2 => ⟨h2.1, by rw [h2.2]; exact h⟩) ?_
    simp only [zq1, zq2, zq3]
    (apply regU_take 5 rfl rfl (by decide +kernel) rfl); (intro w' hw'; go_simp; rfl); simp only [zq1, zq2, zq3]
    refine regU_take 6 (v := .pointer (some ⟨g7, 0, none⟩)) rfl rfl (by decide +kernel) rfl (fun w' h => exec_ixA4 (z := 0) rfl rfl rfl (by decide) (by decide)) ?_; simp only [zq1, zq2, zq3]
    refine regU_take 7 (v := .int .u32 ((v.e : Nat) : Int)) rfl rfl (by decide +kernel) rfl (fun w' h => exec_load_cell rfl rfl Tryz.underlying86 rfl (CmW.c7 h (j := 0) (by decide))) ?_; simp only [zq1, zq2, zq3]
    refine regU_take 8 (v := .pointer (some ⟨g7, 1, none⟩)) rfl rfl (by decide +kernel) rfl (fun w' h => exec_ixA4 (z := 1) rfl rfl rfl (by decide) (by decide)) ?_; simp only [zq1, zq2, zq3]
    refine regU_take 9 (v := .int .u32 ((v.f : Nat) : Int)) rfl rfl (by decide +kernel) rfl (fun w' h => exec_load_cell rfl rfl Tryz.underlying86 rfl (CmW.c7 h (j := 1) (by decide))) ?_; simp only [zq1, zq2, zq3]
    (apply regU_take 10 rfl rfl (by decide +kernel) rfl); (intro w' hw'; go_simp; rfl); simp only [zq1, zq2, zq3]
    refine regU_take 11 (v := .pointer (some ⟨g7, 0, none⟩)) rfl rfl (by decide +kernel) rfl (fun w' h => exec_ixA4 (z := 0) rfl rfl rfl (by decide) (by decide)) ?_; simp only [zq1, zq2, zq3]
    refine regU_take 12 (v := .int .u32 ((v.e : Nat) : Int)) rfl rfl (by decide +kernel) rfl (fun w' h => exec_load_cell rfl rfl Tryz.underlying86 rfl (CmW.c7 h (j := 0) (by decide))) ?_; simp only [zq1, zq2, zq3]
    refine regU_take 13 (v := .int .u32 ((xor32 v.e 4294967295 : Nat) : Int)) rfl rfl (by decide +kernel) rfl (fun w' h => exec_not rfl rfl) ?_; simp only [zq1, zq2, zq3]
    refine regU_take 14 (v := .pointer (some ⟨g7, 2, none⟩)) rfl rfl (by decide +kernel) rfl (fun w' h => exec_ixA4 (z := 2) rfl rfl rfl (by decide) (by decide)) ?_; simp only [zq1, zq2, zq3]
    refine regU_take 15 (v := .int .u32 ((v.g : Nat) : Int)) rfl rfl (by decide +kernel) rfl (fun w' h => exec_load_cell rfl rfl Tryz.underlying86 rfl (CmW.c7 h (j := 2) (by decide))) ?_; simp only [zq1, zq2, zq3]
    (apply regU_take 16 rfl rfl (by decide +kernel) rfl); (intro w' hw'; go_simp; rfl); simp only [zq1, zq2, zq3]
    (apply regU_take 17 rfl rfl (by decide +kernel) rfl); (intro w' hw'; go_simp; rfl); simp only [zq1, zq2, zq3]
    (apply regU_take 18 rfl rfl (by decide +kernel) rfl); (intro w' hw'; go_simp; rfl); simp only [zq1, zq2, zq3]
    (apply regU_take 19 rfl rfl (by decide +kernel) rfl); (intro w' hw'; go_simp; rfl); simp only [zq1, zq2, zq3]
    (apply regU_take 20 rfl rfl (by decide +kernel) rfl); (intro w' hw'; go_simp; rfl); simp only [zq1, zq2, zq3]
    (apply regU_take 21 rfl rfl (by decide +kernel) rfl); (intro w' hw'; go_simp; rfl); simp only [zq1, zq2, zq3]
    refine regU_take 22 (v := .pointer (some ⟨g5, 0 + t * 1, none⟩)) rfl rfl (by decide +kernel) rfl (fun w' h => exec_ixW rfl rfl rfl (by omega)) ?_; simp only [zq1, zq2, zq3]
    refine regU_take 23 (v := .int .u32 ((wv B t : Nat) : Int)) rfl rfl (by decide +kernel) rfl (fun w' h => exec_load_cell rfl rfl Tryz.underlying86 rfl (HG5.out w' _ ((CmW.sat h).perm (show _ = (pts g6 (.cells (arr 4 (st8 v)) TA4 (0, 0)) * pts g7 (.cells (arr 4 fun j => st8 v (4 + j)) TA4 (0, 0))) * GG by ac_rfl)) t (by omega))) ?_; simp only [zq1, zq2, zq3]
    (apply regU_take 24 rfl rfl (by decide +kernel) rfl); (intro w' hw'; go_simp; rfl); simp only [zq1, zq2, zq3]
    (apply regU_take 25 rfl rfl (by decide +kernel) rfl); (intro w' hw'; go_simp; rfl); simp only [zq1, zq2, zq3]
    refine regU_done (by decide +kernel) ?_
    intro w8 h8
    have HW8 := Lib.hid h8
    clear h8 HW
    go_upto_region 7 with (fail)
    refine regU_begin (fun w' => CmW w g6 g7 GG v w') (by kernel_rfl) HW8.out.drew ?_
    refine regU_take 0 (v := .pointer (some ⟨g6, 0, none⟩)) rfl rfl (by decide +kernel) rfl (fun w' h => exec_ixA4 (z := 0) rfl rfl rfl (by decide) (by decide)) ?_; simp only [zq1, zq2, zq3]
    refine regU_take 1 (v := .int .u32 ((v.a : Nat) : Int)) rfl rfl (by decide +kernel) rfl (fun w' h => exec_load_cell rfl rfl Tryz.underlying86 rfl (CmW.c6 h (j := 0) (by decide))) ?_; simp only [zq1, zq2, zq3]
    refine regU_call 2 (f := 151) (args := #[.int .u32 ((v.a : Nat) : Int), .int .i64 2, .int .i64 13, .int .i64 22]) (v := .int .u32 ((mixM v.a 2 13 22 : Nat) : Int)) rfl rfl (by decide +kernel) rfl (fun w' => by kernel_rfl) (fun w' h => (mix_any _ HVa.out 2 13 22 2 13 22 ⟨rfl, by omega, by omega⟩ ⟨rfl, by omega, by omega⟩ ⟨rfl, by omega, by omega⟩ w').mono fun e w'' h2 => ⟨h2.1, by rw [h2.2]; exact h⟩) ?_
    simp only [zq1, zq2, zq3]
    refine regU_take 3 (v := .pointer (some ⟨g6, 0, none⟩)) rfl rfl (by decide +kernel) rfl (fun w' h => exec_ixA4 (z := 0) rfl rfl rfl (by decide) (by decide)) ?_; simp only [zq1, zq2, zq3]
    refine regU_take 4 (v := .int .u32 ((v.a : Nat) : Int)) rfl rfl (by decide +kernel) rfl (fun w' h => exec_load_cell rfl rfl Tryz.underlying86 rfl (CmW.c6 h (j := 0) (by decide))) ?_; simp only [zq1, zq2, zq3]
    refine regU_take 5 (v := .pointer (some ⟨g6, 1, none⟩)) rfl rfl (by decide +kernel) rfl (fun w' h => exec_ixA4 (z := 1) rfl rfl rfl (by decide) (by decide)) ?_; simp only [zq1, zq2, zq3]
    refine regU_take 6 (v := .int .u32 ((v.b : Nat) : Int)) rfl rfl (by decide +kernel) rfl (fun w' h => exec_load_cell rfl rfl Tryz.underlying86 rfl (CmW.c6 h (j := 1) (by decide))) ?_; simp only [zq1, zq2, zq3]
    (apply regU_take 7 rfl rfl (by decide +kernel) rfl); (intro w' hw'; go_simp; rfl); simp only [zq1, zq2, zq3]
    refine regU_take 8 (v := .pointer (some ⟨g6, 0, none⟩)) rfl rfl (by decide +kernel) rfl (fun w' h => exec_ixA4 (z := 0) rfl rfl rfl (by decide) (by decide)) ?_; simp only [zq1, zq2, zq3]
    refine regU_take 9 (v := .int .u32 ((v.a : Nat) : Int)) rfl rfl (by decide +kernel) rfl (fun w' h => exec_load_cell rfl rfl Tryz.underlying86 rfl (CmW.c6 h (j := 0) (by decide))) ?_; simp only [zq1, zq2, zq3]
    refine regU_take 10 (v := .pointer (some ⟨g6, 2, none⟩)) rfl rfl (by decide +kernel) rfl (fun w' h => exec_ixA4 (z := 2) rfl rfl rfl (by decide) (by decide)) ?_; simp only [zq1, zq2, zq3]
    refine regU_take 11 (v := .int .u32 ((v.c : Nat) : Int)) rfl rfl (by decide +kernel) rfl (fun w' h => exec_load_cell rfl rfl Tryz.underlying86 rfl (CmW.c6 h (j := 2) (by decide))) ?_; simp only [zq1, zq2, zq3]
    (apply regU_take 12 rfl rfl (by decide +kernel) rfl); (intro w' hw'; go_simp; rfl); simp only [zq1, zq2, zq3]
    (apply regU_take 13 rfl rfl (by decide +kernel) rfl); (intro w' hw'; go_simp; rfl); simp only [zq1, zq2, zq3]
    refine regU_take 14 (v := .pointer (some ⟨g6, 1, none⟩)) rfl rfl (by decide +kernel) rfl (fun w' h => exec_ixA4 (z := 1) rfl rfl rfl (by decide) (by decide)) ?_; simp only [zq1, zq2, zq3]
    refine regU_take 15 (v := .int .u32 ((v.b : Nat) : Int)) rfl rfl (by decide +kernel) rfl (fun w' h => exec_load_cell rfl rfl Tryz.underlying86 rfl (CmW.c6 h (j := 1) (by decide))) ?_; simp only [zq1, zq2, zq3]
    refine regU_take 16 (v := .pointer (some ⟨g6, 2, none⟩)) rfl rfl (by decide +kernel) rfl (fun w' h => exec_ixA4 (z := 2) rfl rfl rfl (by decide) (by decide)) ?_; simp only [zq1, zq2, zq3]
    refine regU_take 17 (v := .int .u32 ((v.c : Nat) : Int)) rfl rfl (by decide +kernel) rfl (fun w' h => exec_load_cell rfl rfl Tryz.underlying86 rfl (CmW.c6 h (j := 2) (by decide))) ?_; simp only [zq1, zq2, zq3]
    (apply regU_take 18 rfl rfl (by decide +kernel) rfl); (intro w' hw'; go_simp; rfl); simp only [zq1, zq2, zq3]
    (apply regU_take 19 rfl rfl (by decide +kernel) rfl); (intro w' hw'; go_simp; rfl); simp only [zq1, zq2, zq3]
    (apply regU_take 20 rfl rfl (by decide +kernel) rfl); (intro w' hw'; go_simp; rfl); simp only [zq1, zq2, zq3]
    (apply regU_take 21 rfl rfl (by decide +kernel) rfl); (intro w' hw'; go_simp; rfl); simp only [zq1, zq2, zq3]
    refine regU_done (by decide +kernel) ?_
    intro w9 h9
    have HW9 := Lib.hid h9
    clear h9 HW8
    have HBE := Lib.hid (show bigE v (kM t) (wv B t) = add32 (add32 (add32 (add32 v.h (mixM v.e 6 11 25)) (xor32 (and32 v.e v.f) (and32 (xor32 v.e 4294967295) v.g))) (kM t)) (wv B t) from rfl)
    have HBA := Lib.hid (show bigA v = add32 (mixM v.a 2 13 22) (xor32 (xor32 (and32 v.a v.b) (and32 v.a v.c)) (and32 v.b v.c)) from rfl)
    rw [← HBE.out, ← HBA.out]
    clear HBE HBA
    have HRE := Lib.hid (show arr 4 (fun j => st8 (roundM v (kM t) (wv B t)) (4 + j)) = #[.int .u32 ((add32 v.d (bigE v (kM t) (wv B t)) : Nat) : Int), .int .u32 ((v.e : Nat) : Int), .int .u32 ((v.f : Nat) : Int), .int .u32 ((v.g : Nat) : Int)] from rfl)
    have HRV := Lib.hid (show arr 4 (st8 (roundM v (kM t) (wv B t))) = #[.int .u32 ((add32 (bigE v (kM t) (wv B t)) (bigA v) : Nat) : Int), .int .u32 ((v.a : Nat) : Int), .int .u32 ((v.b : Nat) : Int), .int .u32 ((v.c : Nat) : Int)] from rfl)
    generalize bigE v (kM t) (wv B t) = x at HRE HRV ⊢
    generalize bigA v = y at HRV ⊢
    go_upto_region 8 with (fail)
    refine wp_region_lit ?_
    refine wpList_runG (v := .pointer (some ⟨g6, 3, none⟩)) rfl (exec_ixA4 (z := 3) rfl rfl rfl (by decide) (by decide)) ?_; simp only [Act.put, zq1, zq2, zq3]
    refine wpList_runG (v := .int .u32 ((v.d : Nat) : Int)) rfl (exec_load_cell rfl rfl Tryz.underlying86 rfl (HW9.out.c6 (j := 3) (by decide))) ?_; simp only [Act.put, zq1, zq2, zq3]
    (apply wpList_runG rfl); (go_simp; first | rfl | exact ⟨rfl, rfl⟩); simp only [Act.put, zq1, zq2, zq3]
    (apply wpList_runG rfl); (go_simp; first | rfl | exact ⟨rfl, rfl⟩); simp only [Act.put, zq1, zq2, zq3]
    refine wpList_runG (v := .pointer (some ⟨g7, 0, none⟩)) rfl (exec_ixA4 (z := 0) rfl rfl rfl (by decide) (by decide)) ?_; simp only [Act.put, zq1, zq2, zq3]
    refine wpList_runG (v := .int .u32 ((v.e : Nat) : Int)) rfl (exec_load_cell rfl rfl Tryz.underlying86 rfl (HW9.out.c7 (j := 0) (by decide))) ?_; simp only [Act.put, zq1, zq2, zq3]
    refine wpList_runG (v := .pointer (some ⟨g7, 1, none⟩)) rfl (exec_ixA4 (z := 1) rfl rfl rfl (by decide) (by decide)) ?_; simp only [Act.put, zq1, zq2, zq3]
    refine wpList_runG (v := .int .u32 ((v.f : Nat) : Int)) rfl (exec_load_cell rfl rfl Tryz.underlying86 rfl (HW9.out.c7 (j := 1) (by decide))) ?_; simp only [Act.put, zq1, zq2, zq3]
    refine wpList_runG (v := .pointer (some ⟨g7, 2, none⟩)) rfl (exec_ixA4 (z := 2) rfl rfl rfl (by decide) (by decide)) ?_; simp only [Act.put, zq1, zq2, zq3]
    refine wpList_runG (v := .int .u32 ((v.g : Nat) : Int)) rfl (exec_load_cell rfl rfl Tryz.underlying86 rfl (HW9.out.c7 (j := 2) (by decide))) ?_; simp only [Act.put, zq1, zq2, zq3]
    (apply wpList_runG rfl); (go_simp; first | rfl | exact ⟨rfl, rfl⟩); simp only [Act.put, zq1, zq2, zq3]
    refine wpList_store_blk (T := TA4) (old := arr 4 fun j => st8 v (4 + j)) (new := #[.int .u32 ((add32 v.d x : Nat) : Int), .int .u32 ((v.e : Nat) : Int), .int .u32 ((v.f : Nat) : Int), .int .u32 ((v.g : Nat) : Int)]) rfl rfl rfl rfl HW9.out.sat7 (infoA4 rfl) (by rw [arr_size]; rfl) (by simp [Value.oneCell']) ?_
    intro w10 h10
    have HX := Lib.hid (And.intro (HW9.out.same.trans h10.out.1) (h10.out.2.perm (show _ = pts g6 (.cells (arr 4 (st8 v)) TA4 (0, 0)) * (pts g7 (.cells #[.int .u32 ((add32 v.d x : Nat) : Int), .int .u32 ((v.e : Nat) : Int), .int .u32 ((v.f : Nat) : Int), .int .u32 ((v.g : Nat) : Int)] TA4 (0, 0)) * GG) by ac_rfl)))
    have HY := Lib.hid (fun j (hj : j < 4) => show w10.cell? ⟨g6, j, none⟩ = some (.int .u32 ((st8 v j : Nat) : Int)) by rw [cells_at HX.out.2.block]; exact arr_at 4 _ hj)
    clear h10 HW9
    refine wpList_nil ?_
    go_upto_region 9 with (fail)
    refine wp_region_lit ?_
    (apply wpList_runG rfl); (go_simp; first | rfl | exact ⟨rfl, rfl⟩); simp only [Act.put, zq1, zq2, zq3]
    (apply wpList_runG rfl); (go_simp; first | rfl | exact ⟨rfl, rfl⟩); simp only [Act.put, zq1, zq2, zq3]
    (apply wpList_runG rfl); (go_simp; first | rfl | exact ⟨rfl, rfl⟩); simp only [Act.put, zq1, zq2, zq3]
    refine wpList_runG (v := .pointer (some ⟨g6, 0, none⟩)) rfl (exec_ixA4 (z := 0) rfl rfl rfl (by decide) (by decide)) ?_; simp only [Act.put, zq1, zq2, zq3]
    refine wpList_runG (v := .int .u32 ((v.a : Nat) : Int)) rfl (exec_load_cell rfl rfl Tryz.underlying86 rfl (HY.out 0 (by decide))) ?_; simp only [Act.put, zq1, zq2, zq3]
    refine wpList_runG (v := .pointer (some ⟨g6, 1, none⟩)) rfl (exec_ixA4 (z := 1) rfl rfl rfl (by decide) (by decide)) ?_; simp only [Act.put, zq1, zq2, zq3]
    refine wpList_runG (v := .int .u32 ((v.b : Nat) : Int)) rfl (exec_load_cell rfl rfl Tryz.underlying86 rfl (HY.out 1 (by decide))) ?_; simp only [Act.put, zq1, zq2, zq3]
    refine wpList_runG (v := .pointer (some ⟨g6, 2, none⟩)) rfl (exec_ixA4 (z := 2) rfl rfl rfl (by decide) (by decide)) ?_; simp only [Act.put, zq1, zq2, zq3]
    refine wpList_runG (v := .int .u32 ((v.c : Nat) : Int)) rfl (exec_load_cell rfl rfl Tryz.underlying86 rfl (HY.out 2 (by decide))) ?_; simp only [Act.put, zq1, zq2, zq3]
    (apply wpList_runG rfl); (go_simp; first | rfl | exact ⟨rfl, rfl⟩); simp only [Act.put, zq1, zq2, zq3]
    refine wpList_store_blk (T := TA4) (old := arr 4 (st8 v)) (new := #[.int .u32 ((add32 x y : Nat) : Int), .int .u32 ((v.a : Nat) : Int), .int .u32 ((v.b : Nat) : Int), .int .u32 ((v.c : Nat) : Int)]) rfl rfl rfl rfl HX.out.2 (infoA4 rfl) (by rw [arr_size]; rfl) (by simp [Value.oneCell']) ?_
    intro w11 h11
    have HE := Lib.hid (show CmpS w g6 g7 GG B s0 (.int .i64 ((t : Int) + 1)) w11 from ⟨t + 1, by omega, by push_cast; rfl, ⟨HX.out.1.trans h11.out.1, by
     have h := h11.out.2
     rw [HRD.out, HRE.out, HRV.out]
     exact h⟩⟩)
    clear h11 HX HY
    refine wpList_nil ?_
    go_wp2
    go_roundw
    case rel => exact HE.out
    case measure => simp only [intOf]; omega
  ·have hte : t = 64 := by omega
   have htd : decide ((t : Int) < 64) = false := decide_eq_false (by omega)
   subst hte
   have HBM := Lib.hid (show st8 (blockM s0 B) = fun j => add32 (st8 s0 j) (st8 (roundsM (wordsM B 64) s0 64) j) from by funext j; exact st8_plus _ _ j)
   generalize roundsM (wordsM B 64) s0 64 = v at HW HBM
   have H1 := Lib.hid (show CpW w g2 g6 g7 G1 (plF s (st8 v) 0) v wr from ⟨HW.out.same, by
    have h := HW.out.sat
    rw [HGG.out, HA8.out] at h
    rw [show plF s (st8 v) 0 = s by funext j; unfold plF; rw [if_neg (by omega)]]
    exact h.perm (by ac_rfl)⟩)
   clear HW
   obtain ⟨wo, rfl⟩ : ∃ wo : World, wo = wr := ⟨_, rfl⟩
   go_wp2
   go_loopw [94] (fun iv wr => CpS w g2 g6 g7 G1 s v iv wr) (fun iv _ => 4 - (intOf iv).toNat)
   case atStart => exact ⟨⟨0, by omega, rfl, H1.out⟩⟩
   case round =>
    clear H1
    obtain ⟨i, hi, rfl, hW⟩ := hrel.st
    clear hrel
    have HW := Lib.hid hW
    clear hW
    by_cases hil : i < 4
    ·have hid : decide ((i : Int) < 4) = true := decide_eq_true (by omega)
     have hwi : IntKind.i64.wrap ((i : Int) + 1) = (i : Int) + 1 := IntWalk.i64_in _ (by omega)
     have HPi := Lib.hid (show plF s (st8 v) i i = s i by unfold plF; rw [if_neg (by omega)])
     go_upto_region 14 with (fail)
     refine regU_begin (fun w' => CpW w g2 g6 g7 G1 (plF s (st8 v) i) v w') (by kernel_rfl) HW.out.drew ?_
     (apply regU_take 0 rfl rfl (by decide +kernel) rfl); (intro w' hw'; go_simp; rfl); simp only [zq1, zq2, zq3]
     refine regU_take 1 (v := .pointer (some ⟨g2, 0 + i, none⟩)) rfl rfl (by decide +kernel) rfl (fun w' h => exec_ixN rfl rfl rfl (by omega)) ?_; simp only [zq1, zq2, zq3]
     refine regU_take 2 (v := .int .u32 ((s i : Nat) : Int)) rfl rfl (by decide +kernel) rfl (fun w' h => exec_load_cell rfl rfl Tryz.underlying86 rfl (by rw [← HPi.out]; exact CpW.c2 h (by omega))) ?_; simp only [zq1, zq2, zq3]
     (apply regU_take 3 rfl rfl (by decide +kernel) rfl); (intro w' hw'; go_simp; rfl); simp only [zq1, zq2, zq3]
     refine regU_take 4 (v := .pointer (some ⟨g6, (i : Int).toNat, none⟩)) rfl rfl (by decide +kernel) rfl (fun w' h => exec_ixA4 (z := (i : Int)) rfl rfl rfl (by omega) (by omega)) ?_; simp only [zq1, zq2, zq3]
     refine regU_take 5 (v := .int .u32 ((st8 v i : Nat) : Int)) rfl rfl (by decide +kernel) rfl (fun w' h => exec_load_cell rfl rfl Tryz.underlying86 rfl (by rw [Int.toNat_natCast]; exact (CpW.cm h).c6 (by omega))) ?_; simp only [zq1, zq2, zq3]
     (apply regU_take 6 rfl rfl (by decide +kernel) rfl); (intro w' hw'; go_simp; rfl); simp only [zq1, zq2, zq3]
     refine regU_take 7 (v := .pointer (some ⟨g2, 0 + i, none⟩)) rfl rfl (by decide +kernel) rfl (fun w' h => exec_ixN rfl rfl rfl (by omega)) ?_; simp only [zq1, zq2, zq3]
     refine regU_alone (S' := fun _ => True) 8 (by decide +kernel) ?_
     intro w7 h7
     have HF7 := Lib.hid ((h7.set i (add32 (s i) (st8 v i))).congr (show _ = plF' s (st8 v) i from rfl))
     have c8 := h7.c2 (j := i) (by omega)
     have f8 := h7.free i
     refine reg_do_last 8 (w7.setCell ⟨g2, 0 + i, none⟩ (.int .u32 ((add32 (s i) (st8 v i) : Nat) : Int))) rfl rfl (by decide +kernel) rfl (exec_stU rfl rfl rfl c8 f8) ?_
     generalize w7.setCell ⟨g2, 0 + i, none⟩ (.int .u32 ((add32 (s i) (st8 v i) : Nat) : Int)) = w8 at *
     clear h7 c8 f8 HW
     have HPj := Lib.hid (show plF' s (st8 v) i (i + 4) = s (i + 4) by unfold plF' plF; rw [if_neg (by omega), if_neg (by omega)])
     go_upto_region 15 with (fail)
     refine regU_begin (fun w' => CpW w g2 g6 g7 G1 (plF' s (st8 v) i) v w') (by kernel_rfl) HF7.out.drew ?_
     (apply regU_take 0 rfl rfl (by decide +kernel) rfl); (intro w' hw'; go_simp; rfl); simp only [zq1, zq2, zq3]
     refine regU_take 1 (v := .int .i64 ((i + 4 : Nat) : Int)) rfl rfl (by decide +kernel) rfl (fun w' h => exec_binop (vx := .int .i64 (i : Int)) (vy := .int .i64 4) rfl rfl rfl rfl (by rw [b_addT _ (i : Int) 4 ((i + 4 : Nat) : Int) (by omega) (by omega) (by omega)]; rfl)) ?_; simp only [zq1, zq2, zq3]
     refine regU_take 2 (v := .pointer (some ⟨g2, 0 + (i + 4), none⟩)) rfl rfl (by decide +kernel) rfl (fun w' h => exec_ixN rfl rfl rfl (by omega)) ?_; simp only [zq1, zq2, zq3]
     refine regU_take 3 (v := .int .u32 ((s (i + 4) : Nat) : Int)) rfl rfl (by decide +kernel) rfl (fun w' h => exec_load_cell rfl rfl Tryz.underlying86 rfl (by rw [← HPj.out]; exact CpW.c2 h (by omega))) ?_; simp only [zq1, zq2, zq3]
     (apply regU_take 4 rfl rfl (by decide +kernel) rfl); (intro w' hw'; go_simp; rfl); simp only [zq1, zq2, zq3]
     refine regU_take 5 (v := .pointer (some ⟨g7, (i : Int).toNat, none⟩)) rfl rfl (by decide +kernel) rfl (fun w' h => exec_ixA4 (z := (i : Int)) rfl rfl rfl (by omega) (by omega)) ?_; simp only [zq1, zq2, zq3]
     refine regU_take 6 (v := .int .u32 ((st8 v (i + 4) : Nat) : Int)) rfl rfl (by decide +kernel) rfl (fun w' h => exec_load_cell rfl rfl Tryz.underlying86 rfl (by rw [Int.toNat_natCast, Nat.add_comm i 4]; exact (CpW.cm h).c7 (by omega))) ?_; simp only [zq1, zq2, zq3]
     (apply regU_take 7 rfl rfl (by decide +kernel) rfl); (intro w' hw'; go_simp; rfl); simp only [zq1, zq2, zq3]
     refine regU_take 8 (v := .pointer (some ⟨g2, 0 + (i + 4), none⟩)) rfl rfl (by decide +kernel) rfl (fun w' h => exec_ixN rfl rfl rfl (by omega)) ?_; simp only [zq1, zq2, zq3]
     refine regU_alone (S' := fun _ => True) 9 (by decide +kernel) ?_
     intro w7 h7
     have HF8 := Lib.hid ((h7.set (i + 4) (add32 (s (i + 4)) (st8 v (i + 4)))).congr (plF_next s (st8 v) hil))
     have c8 := h7.c2 (j := i + 4) (by omega)
     have f8 := h7.free (i + 4)
     refine reg_do_last 9 (w7.setCell ⟨g2, 0 + (i + 4), none⟩ (.int .u32 ((add32 (s (i + 4)) (st8 v (i + 4)) : Nat) : Int))) rfl rfl (by decide +kernel) rfl (exec_stU rfl rfl rfl c8 f8) ?_
     generalize w7.setCell ⟨g2, 0 + (i + 4), none⟩ (.int .u32 ((add32 (s (i + 4)) (st8 v (i + 4)) : Nat) : Int)) = w8 at *
     clear h7 c8 f8 HF7
     go_wp2
     go_roundw
     case rel => exact ⟨⟨i + 1, by omega, by push_cast; rfl, HF8.out⟩⟩
     case measure => simp only [intOf]; omega
    ·have hie : i = 4 := by omega
     have hid : decide ((i : Int) < 4) = false := decide_eq_false (by omega)
     subst hie
     obtain ⟨R8, hR8⟩ : ∃ R, R = arr 8 (st8 (blockM s0 B)) := ⟨_, rfl⟩
     have hpf : arr 8 (plF s (st8 v) 4) = R8 := by
      rw [hR8, HBM.out]
      apply Array.ext_getElem?
      intro j
      by_cases hj : j < 8
      ·rw [arr_at _ _ hj, arr_at _ _ hj]; unfold plF; rw [if_pos (by omega), HS0.out]
      ·rw [Array.getElem?_eq_none (by rw [arr_size]; omega), Array.getElem?_eq_none (by rw [arr_size]; omega)]
     have HRS := Lib.hid (show R8.size = 8 ∧ ∀ v ∈ R8.toList, v.oneCell' = true by rw [hR8]; exact ⟨arr_size _ _, arr_one _ _⟩)
     have HR8 := Lib.hid hR8
     clear hR8
     have h1 := HW.out.same
     have h4 := HW.out.sat
     rw [hpf, HG1.out] at h4
     have HS := Lib.hid (And.intro h1 (h4.perm (show _ = pts g4 (.cells zV TV (0, 0)) * (pts g2 (.cells R8 TV (0, 0)) * (pts g6 (.cells (arr 4 (st8 v)) TA4 (0, 0)) * (pts g7 (.cells (arr 4 fun j => st8 v (4 + j)) TA4 (0, 0)) * (pts g5 (.cells (arr 64 (wv B)) TW (0, 0)) * old w)))) by ac_rfl)))
     have hblk := h4.block
     clear h1 h4 HW hpf
     go_wp2_with (first
      | ((with_reducible (apply wp_load_V hblk HRS.out.1)); rfl; rfl; rfl)
      | (refine wpList_store_blk (T := TV) (old := zV) (new := R8) rfl rfl rfl rfl HS.out.2 (infoV HRS.out.1) (by rw [HRS.out.1]; rfl) HRS.out.2 ?_; intro w9 h9))
     have hblk2 := h9.out.2.block
     refine bodyPost_ret (v := .agg R8) ?_ rfl ⟨by rw [HR8.out], (HS.out.1.trans h9.out.1).below_of (h9.out.2.perm (show _ = (pts g4 (.cells R8 TV (0, 0)) * (pts g2 (.cells R8 TV (0, 0)) * (pts g6 (.cells (arr 4 (st8 v)) TA4 (0, 0)) * (pts g7 (.cells (arr 4 fun j => st8 v (4 + j)) TA4 (0, 0)) * pts g5 (.cells (arr 64 (wv B)) TW (0, 0)))))) * old w by ac_rfl))⟩
     exact results_cell_row Tryz.results130 _ _ g4 TV R8 (0, 0) _ rfl hblk2 Tryz.underlying215 rfl (infoV HRS.out.1)
end Go.Proofs.YteikbikopgabjaaGreatDoor
