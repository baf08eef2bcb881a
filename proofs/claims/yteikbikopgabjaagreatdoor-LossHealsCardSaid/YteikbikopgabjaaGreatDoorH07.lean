import Derived.Test.YteikbikopgabjaaGreatDoorH03
import Derived.Test.YteikbikopgabjaaGreatDoorH05
import Derived.Test.YteikbikopgabjaaGreatDoorH06
import Derived.RegionTactic
import Derived.BigRegion
/- Part 7 of a proof; the last part says what is proved. -/
namespace Go.Sha
open Go
def wv (b : Nat → Nat) (j : Nat) : Nat := ((wordsM b 64)[j]?).getD 0
theorem wordsM_pre (b : Nat → Nat) : ∀ d t j, j < t → (wordsM b (t + d))[j]? = (wordsM b t)[j]?
 | 0, t, j, h => rfl
 | d + 1, t, j, h => by
  rw [show t + (d + 1) = (t + d) + 1 by omega, wordsM, List.getElem?_append_left (by rw [wordsM_len]; omega), wordsM_pre b d t j h]
theorem wv_rec (b : Nat → Nat) {t : Nat} (ht : t < 64) : wv b t = if t < 16 then be4 (b (4 * t)) (b (4 * t + 1)) (b (4 * t + 2)) (b (4 * t + 3)) else add32 (add32 (add32 (wv b (t - 16)) (sig0 (wv b (t - 15)))) (wv b (t - 7))) (sig1 (wv b (t - 2))) := by
 have h1 : wv b t = nextW b (wordsM b t) t := by
  unfold wv
  have := wordsM_pre b (63 - t) (t + 1) t (by omega)
  rw [show t + 1 + (63 - t) = 64 by omega] at this
  rw [this, wordsM, List.getElem?_append_right (by rw [wordsM_len]; omega), wordsM_len, Nat.sub_self]
  rfl
 have h2 : ∀ j, j < t → ((wordsM b t)[j]?).getD 0 = wv b j := fun j hj => by
  unfold wv
  have := wordsM_pre b (64 - t) t j hj
  rw [show t + (64 - t) = 64 by omega] at this
  rw [this]
 rw [h1]
 unfold nextW
 by_cases h : t < 16
 ·rw [if_pos h, if_pos h]
 ·rw [if_neg h, if_neg h, h2 _ (by omega), h2 _ (by omega), h2 _ (by omega), h2 _ (by omega)]
theorem wv_lt (b : Nat → Nat) (j : Nat) : wv b j < 4294967296 := by
 unfold wv
 cases h : (wordsM b 64)[j]? with
 | none => simp
 | some x => exact wordsM_lt b 64 x (List.mem_of_getElem? h)
def wA (b : Nat → Nat) : Array Value := ((List.range 64).map fun j => Value.int .u32 ((wv b j : Nat) : Int)).toArray
theorem wA_size (b : Nat → Nat) : (wA b).size = 64 := by unfold wA; simp
theorem wA_one (b : Nat → Nat) : ∀ v ∈ (wA b).toList, v.oneCell' = true := by
 intro v hv
 unfold wA at hv
 simp at hv
 obtain ⟨j, _, rfl⟩ := hv
 rfl
def zW : Array Value := Array.replicate 64 (.int .u32 0)
end Go.Sha
namespace Go.Proofs.YteikbikopgabjaaGreatDoor
open Go.RowKit Go.Sha Go.Sl
attribute [local go_sem high] o_xor o_and o_or o_add
abbrev TW : TypeId := 221
abbrev T32 : TypeId := 86
theorem zeroW (w : World) : (zeroValue TW).run Tryz.prog w = .ok (.agg zW) w := by kernel_rfl
theorem info_u32 : (Tryz.prog.info? T32).map (·.size) = some 1 := by kernel_rfl
theorem info_u8 : (Tryz.prog.info? 5).map (·.size) = some 1 := by kernel_rfl
theorem exec_ixW {a : Act} {o : Oper} {w : World} {b off i : Nat} {x y : Operand} (ho : o.op = .indexAddr TW x y) (hx : a.eval x = .pointer (some ⟨b, off, none⟩)) (hy : a.eval y = .int .i64 (i : Int)) (hi : i < 64) :
  (execOp a.eval o).run Tryz.prog w = .ok (.value (.pointer (some ⟨b, off + i * 1, none⟩))) w := by
 obtain ⟨ti, hti, hts⟩ := Option.map_eq_some_iff.1 info_u32
 exact exec_index_array (P := Tryz.prog) (w := w) ho hx hy Tryz.underlying221 hti hts hi
theorem exec_ix8 {a : Act} {o : Oper} {w : World} {n c b off i : Nat} {x y : Operand} (ho : o.op = .indexAddr 131 x y) (hx : a.eval x = .slice (some ⟨b, off, none⟩) n c) (hy : a.eval y = .int .i64 (i : Int)) (hi : i < n) :
  (execOp a.eval o).run Tryz.prog w = .ok (.value (.pointer (some ⟨b, off + i, none⟩))) w := by
 obtain ⟨ti, hti, hts⟩ := Option.map_eq_some_iff.1 info_u8
 have h := exec_index_slice (P := Tryz.prog) (w := w) ho hx hy Tryz.underlying131 hti hts hi
 rwa [Nat.mul_one] at h
theorem infoW {c : Array Value} (h : c.size = 64) : (Tryz.prog.info? TW).map (·.size) = some c.size := by rw [h]; kernel_rfl
section
variable {ops : Array Oper} {rest : List Oper} {o : Oper} {a : Act} {w : World} {Q : Exit → Act → World → Prop}
theorem wp_load_W {g : Nat} {c : Array Value} (hb : w.heap[g]? = some (.cells c TW (0, 0))) (hc : c.size = 64) (hg : o.guard = none) (x : Operand) (ho : o.op = .load TW x) (hx : a.eval x = .pointer (some ⟨g, 0, none⟩))
  (k : wpList Tryz.prog ops Q rest (a.put o.dst (.agg c)) w) : wpList Tryz.prog ops Q (o :: rest) a w :=
 wpList_load_row hg TW x ho g hx TW c (0, 0) _ hb Tryz.underlying221 rfl (infoW hc) k
end
structure WdW (w0 : World) (g3 g2 : Nat) (B : Nat → Nat) (t : Nat) (wr : World) : Prop where
 st : ∃ c : Array Value, Same w0 wr ∧ c.size = 64 ∧ (∀ j, j < t → c[j]? = some (.int .u32 ((wv B j : Nat) : Int))) ∧ Sat wr (pts g3 (.cells c TW (0, 0)) * (pts g2 (.cells zW TW (0, 0)) * old w0))
section
variable {w0 wr w' : World} {g3 g2 t : Nat} {B : Nat → Nat}
theorem WdW.bel (h : WdW w0 g3 g2 B t wr) : Below w0.heap.size w0 wr := by
 obtain ⟨c, h1, -, -, h4⟩ := h.st
 exact h1.below_of (h4.perm (show _ = (pts g3 (.cells c TW (0, 0)) * pts g2 (.cells zW TW (0, 0))) * old w0 by ac_rfl))
theorem WdW.below (h : WdW w0 g3 g2 B t wr) (hb : Below wr.heap.size wr w') : WdW w0 g3 g2 B t w' := by
 obtain ⟨c, h1, h2, h3, h4⟩ := h.st
 exact ⟨c, h1.below hb, h2, h3, h4.below hb⟩
theorem WdW.drew (h : WdW w0 g3 g2 B t wr) : WdW w0 g3 g2 B t wr.drew := h.below (Below.refl _ _).drew
theorem WdW.cell (h : WdW w0 g3 g2 B t wr) {j : Nat} (hj : j < t) : wr.cell? ⟨g3, 0 + j * 1, none⟩ = some (.int .u32 ((wv B j : Nat) : Int)) := by
 obtain ⟨c, -, -, h3, h4⟩ := h.st
 rw [cells_at h4.block, Nat.zero_add, Nat.mul_one]; exact h3 j hj
theorem WdW.free (h : WdW w0 g3 g2 B t wr) (ht : t < 64) : (∃ u, wr.cell? ⟨g3, 0 + t * 1, none⟩ = some u) ∧ wr.frozen? ⟨g3, 0 + t * 1, none⟩ = false := by
 obtain ⟨c, -, h2, -, h4⟩ := h.st
 rw [cells_at h4.block, Nat.zero_add, Nat.mul_one]
 exact ⟨⟨_, Array.getElem?_eq_getElem (by omega)⟩, thawed_at h4.block _⟩
theorem WdW.set (h : WdW w0 g3 g2 B t wr) (ht : t < 64) : WdW w0 g3 g2 B (t + 1) (wr.setCell ⟨g3, 0 + t * 1, none⟩ (.int .u32 ((wv B t : Nat) : Int))) := by
 obtain ⟨c, h1, h2, h3, h4⟩ := h.st
 rw [Nat.zero_add, Nat.mul_one]
 refine ⟨_, h1.setCell _ _, ?_, fun j hj => ?_, h4.setCell (i := t) _⟩
 ·simpa using h2
 ·by_cases e : j = t
  ·subst e; rw [Array.getElem?_setIfInBounds_self_of_lt (by omega)]
  ·rw [Array.getElem?_setIfInBounds_ne (Ne.symm e)]; exact h3 j (by omega)
end
structure WdS (w0 : World) (g3 g2 : Nat) (B : Nat → Nat) (N : Nat) (tv : Value) (wr : World) : Prop where
 st : ∃ t : Nat, t ≤ N ∧ N - 48 ≤ t ∧ tv = .int .i64 (t : Int) ∧ WdW w0 g3 g2 B t wr
theorem exec_stU {a : Act} {o : Oper} {w : World} {x y : Operand} {ad : Addr} {z : Int} {u : Value} (ho : o.op = .store T32 x y) (hx : a.eval x = .pointer (some ad)) (hy : a.eval y = .int .u32 z) (hc : w.cell? ad = some u) (hf : w.frozen? ad = false) :
  (execOp a.eval o).run Tryz.prog w = .ok .skip (w.setCell ad (.int .u32 z)) := by
 obtain ⟨ti, hti, hts⟩ := Option.map_eq_some_iff.1 info_u32
 exact exec_store_cell ho hx hy hti hts rfl hc hf
theorem o_conv (x : Nat) (hx : x < 256) (w : World) : (convert 5 T32 (.int .u8 (x : Int))).run Tryz.prog w = .ok (.int .u32 (x : Int)) w := by
 have h1 : Tryz.prog.underlying T32 = some (.int .u32) := Tryz.underlying86
 have h2 : Tryz.prog.underlying 5 = some (.int .u8) := Tryz.underlying5
 have h3 : IntKind.u32.wrap (x : Int) = (x : Int) := by rw [IntKind.wrap_u32']; omega
 simp [convert, run_underlying h1, run_underlying h2, h3, go_sem]
set_option maxRecDepth 100000 in
set_option maxHeartbeats 4000000 in
theorem words_any (B : Nat → Nat) (hB : ∀ j, B j < 256) (b off cap : Nat) (w : World) (hby : ∀ j, j < 64 → w.cell? ⟨b, off + j, none⟩ = some (.int .u8 ((B j : Nat) : Int))) :
  Calls Tryz.prog 133 #[.slice (some ⟨b, off, none⟩) 64 cap] w fun e w' => e = .returned (.agg (wA B)) ∧ Below w.heap.size w w' := by
 have HBY := Lib.hid (fun W (hb : Below w.heap.size w W) j (hj : j < 64) => (hb.cell (p := ⟨b, off + j, none⟩) (World.block_lt_of_cell? _ _ (hby j hj))).trans (hby j hj))
 have HRC := Lib.hid (fun t (ht : t < 64) => wv_rec B ht)
 have HBL := Lib.hid hB
 have HW0 := Lib.hid (show WdW w (w.heap.size + 1) w.heap.size B 0 ((w.alloc (.cells zW TW)).alloc (.cells zW TW)) from
  ⟨zW, ((Same.refl w).alloc _).alloc _, by simp [zW], fun j hj => by omega, by
   have h := ((Sat.old w).alloc (.cells zW TW)).alloc (.cells zW TW)
   rw [show (w.alloc (.cells zW TW)).heap.size = w.heap.size + 1 by simp] at h
   exact h⟩)
 clear hby hB
 go_enter Tryz.func133, Tryz.ntmps133
 go_upto_region 2 with ((with_reducible (refine wpList_alloc_zero ?_ TW ?_ _ (zeroW _) ?_)); rfl; rfl)
 generalize (w.alloc (.cells zW TW)).alloc (.cells zW TW) = w1 at HW0 ⊢
 rw [show (w.alloc (.cells zW TW)).heap.size = w.heap.size + 1 by simp]
 generalize w.heap.size = g2 at HW0 ⊢
 generalize g2 + 1 = g3 at HW0 ⊢
 go_wp2
 go_loopw [4] (fun tv wr => WdS w g3 g2 B 16 tv wr) (fun tv _ => 16 - (intOf tv).toNat)
 case atStart => exact ⟨⟨0, by omega, by omega, rfl, HW0.out⟩⟩
 case round =>
  clear HW0
  obtain ⟨t, ht, -, rfl, hW⟩ := hrel.st
  clear hrel
  have HW := Lib.hid hW
  clear hW
  by_cases htl : t < 16
  ·have htd : decide ((t : Int) < 16) = true := decide_eq_true (by omega)
   have hwt : IntKind.i64.wrap ((t : Int) + 1) = (t : Int) + 1 := IntWalk.i64_in _ (by omega)
   have HR := Lib.hid (show wv B t = be4 (B (4 * t)) (B (4 * t + 1)) (B (4 * t + 2)) (B (4 * t + 3)) by rw [HRC.out t (by omega), if_pos htl])
   have hm0 : IntKind.i64.wrap (4 * (t : Int)) = ((4 * t : Nat) : Int) := by rw [IntWalk.i64_in _ (by omega)]; omega
   have hm1 : IntKind.i64.wrap (((4 * t : Nat) : Int) + 1) = ((4 * t + 1 : Nat) : Int) := by rw [IntWalk.i64_in _ (by omega)]; omega
   have hm2 : IntKind.i64.wrap (((4 * t : Nat) : Int) + 2) = ((4 * t + 2 : Nat) : Int) := by rw [IntWalk.i64_in _ (by omega)]; omega
   have hm3 : IntKind.i64.wrap (((4 * t : Nat) : Int) + 3) = ((4 * t + 3 : Nat) : Int) := by rw [IntWalk.i64_in _ (by omega)]; omega
   have hp3 : 4 * t + 3 < 64 := by omega
   obtain ⟨p0, e0⟩ : ∃ p, 4 * t = p := ⟨_, rfl⟩
   rw [e0] at HR hm0 hm1 hm2 hm3 hp3
   obtain ⟨p1, e1⟩ : ∃ p, p0 + 1 = p := ⟨_, rfl⟩
   obtain ⟨p2, e2⟩ : ∃ p, p0 + 2 = p := ⟨_, rfl⟩
   obtain ⟨p3, e3⟩ : ∃ p, p0 + 3 = p := ⟨_, rfl⟩
   have hl0 : p0 < 64 := by omega
   have hl1 : p1 < 64 := by omega
   have hl2 : p2 < 64 := by omega
   have hl3 : p3 < 64 := by omega
   rw [e1, e2, e3] at HR
   rw [e1] at hm1
   rw [e2] at hm2
   rw [e3] at hm3
   clear e0 e1 e2 e3 hp3
   have hv0 := fun W => o_conv (B p0) (HBL.out p0) W
   have hv1 := fun W => o_conv (B p1) (HBL.out p1) W
   have hv2 := fun W => o_conv (B p2) (HBL.out p2) W
   have hv3 := fun W => o_conv (B p3) (HBL.out p3) W
   have hs0 := fun tt => o_shl tt .u64 (B p0) 24 (by omega) (by omega)
   have hs1 := fun tt => o_shl tt .u64 (B p1) 16 (by omega) (by omega)
   have hs2 := fun tt => o_shl tt .u64 (B p2) 8 (by omega) (by omega)
   rw [show (24 : Int).toNat = 24 from rfl] at hs0
   rw [show (16 : Int).toNat = 16 from rfl] at hs1
   rw [show (8 : Int).toNat = 8 from rfl] at hs2
   go_upto_region 5 with (fail)
   refine regU_begin (fun w' => WdW w g3 g2 B t w') (by kernel_rfl) HW.out.drew ?_
   (apply regU_take 0 rfl rfl (by decide +kernel) rfl); (intro w' hw'; go_simp; rfl); simp only [zq1, zq2, zq3]
   (apply regU_take 1 rfl rfl (by decide +kernel) rfl); (intro w' hw'; go_simp; rfl); simp only [zq1, zq2, zq3]
   (apply regU_take 2 rfl rfl (by decide +kernel) rfl); (intro w' hw'; go_simp; rfl); simp only [zq1, zq2, zq3]
   (apply regU_take 3 rfl rfl (by decide +kernel) rfl); (intro w' hw'; go_simp; rfl); simp only [zq1, zq2, zq3]
   refine regU_take 4 (v := .pointer (some ⟨b, off + p0, none⟩)) rfl rfl (by decide +kernel) rfl (fun w' h => exec_ix8 rfl rfl rfl (by omega)) ?_; simp only [zq1, zq2, zq3]
   refine regU_take 5 (v := .int .u8 ((B p0 : Nat) : Int)) rfl rfl (by decide +kernel) rfl (fun w' h => exec_load_cell rfl rfl Tryz.underlying5 rfl (HBY.out w' (WdW.bel h) p0 (by omega))) ?_; simp only [zq1, zq2, zq3]
   (apply regU_take 6 rfl rfl (by decide +kernel) rfl); (intro w' hw'; go_simp; rfl); simp only [zq1, zq2, zq3]
   (apply regU_take 7 rfl rfl (by decide +kernel) rfl); (intro w' hw'; go_simp; rfl); simp only [zq1, zq2, zq3]
   (apply regU_take 8 rfl rfl (by decide +kernel) rfl); (intro w' hw'; go_simp; rfl); simp only [zq1, zq2, zq3]
   (apply regU_take 9 rfl rfl (by decide +kernel) rfl); (intro w' hw'; go_simp; rfl); simp only [zq1, zq2, zq3]
   (apply regU_take 10 rfl rfl (by decide +kernel) rfl); (intro w' hw'; go_simp; rfl); simp only [zq1, zq2, zq3]
   (apply regU_take 11 rfl rfl (by decide +kernel) rfl); (intro w' hw'; go_simp; rfl); simp only [zq1, zq2, zq3]
   refine regU_take 12 (v := .pointer (some ⟨b, off + p1, none⟩)) rfl rfl (by decide +kernel) rfl (fun w' h => exec_ix8 rfl rfl rfl (by omega)) ?_; simp only [zq1, zq2, zq3]
   refine regU_take 13 (v := .int .u8 ((B p1 : Nat) : Int)) rfl rfl (by decide +kernel) rfl (fun w' h => exec_load_cell rfl rfl Tryz.underlying5 rfl (HBY.out w' (WdW.bel h) p1 (by omega))) ?_; simp only [zq1, zq2, zq3]
   (apply regU_take 14 rfl rfl (by decide +kernel) rfl); (intro w' hw'; go_simp; rfl); simp only [zq1, zq2, zq3]
   (apply regU_take 15 rfl rfl (by decide +kernel) rfl); (intro w' hw'; go_simp; rfl); simp only [zq1, zq2, zq3]
   (apply regU_take 16 rfl rfl (by decide +kernel) rfl); (intro w' hw'; go_simp; rfl); simp only [zq1, zq2, zq3]
   (apply regU_take 17 rfl rfl (by decide +kernel) rfl); (intro w' hw'; go_simp; rfl); simp only [zq1, zq2, zq3]
   (apply regU_take 18 rfl rfl (by decide +kernel) rfl); (intro w' hw'; go_simp; rfl); simp only [zq1, zq2, zq3]
   (apply regU_take 19 rfl rfl (by decide +kernel) rfl); (intro w' hw'; go_simp; rfl); simp only [zq1, zq2, zq3]
   (apply regU_take 20 rfl rfl (by decide +kernel) rfl); (intro w' hw'; go_simp; rfl); simp only [zq1, zq2, zq3]
   refine regU_take 21 (v := .pointer (some ⟨b, off + p2, none⟩)) rfl rfl (by decide +kernel) rfl (fun w' h => exec_ix8 rfl rfl rfl (by omega)) ?_; simp only [zq1, zq2, zq3]
   refine regU_take 22 (v := .int .u8 ((B p2 : Nat) : Int)) rfl rfl (by decide +kernel) rfl (fun w' h => exec_load_cell rfl rfl Tryz.underlying5 rfl (HBY.out w' (WdW.bel h) p2 (by omega))) ?_; simp only [zq1, zq2, zq3]
   (apply regU_take 23 rfl rfl (by decide +kernel) rfl); (intro w' hw'; go_simp; rfl); simp only [zq1, zq2, zq3]
   (apply regU_take 24 rfl rfl (by decide +kernel) rfl); (intro w' hw'; go_simp; rfl); simp only [zq1, zq2, zq3]
   (apply regU_take 25 rfl rfl (by decide +kernel) rfl); (intro w' hw'; go_simp; rfl); simp only [zq1, zq2, zq3]
   (apply regU_take 26 rfl rfl (by decide +kernel) rfl); (intro w' hw'; go_simp; rfl); simp only [zq1, zq2, zq3]
   (apply regU_take 27 rfl rfl (by decide +kernel) rfl); (intro w' hw'; go_simp; rfl); simp only [zq1, zq2, zq3]
   (apply regU_take 28 rfl rfl (by decide +kernel) rfl); (intro w' hw'; go_simp; rfl); simp only [zq1, zq2, zq3]
   (apply regU_take 29 rfl rfl (by decide +kernel) rfl); (intro w' hw'; go_simp; rfl); simp only [zq1, zq2, zq3]
   refine regU_take 30 (v := .pointer (some ⟨b, off + p3, none⟩)) rfl rfl (by decide +kernel) rfl (fun w' h => exec_ix8 rfl rfl rfl (by omega)) ?_; simp only [zq1, zq2, zq3]
   refine regU_take 31 (v := .int .u8 ((B p3 : Nat) : Int)) rfl rfl (by decide +kernel) rfl (fun w' h => exec_load_cell rfl rfl Tryz.underlying5 rfl (HBY.out w' (WdW.bel h) p3 (by omega))) ?_; simp only [zq1, zq2, zq3]
   (apply regU_take 32 rfl rfl (by decide +kernel) rfl); (intro w' hw'; go_simp; rfl); simp only [zq1, zq2, zq3]
   (apply regU_take 33 rfl rfl (by decide +kernel) rfl); (intro w' hw'; go_simp; rfl); simp only [zq1, zq2, zq3]
   refine regU_take 34 (v := .pointer (some ⟨g3, 0 + t * 1, none⟩)) rfl rfl (by decide +kernel) rfl (fun w' h => exec_ixW rfl rfl rfl (by omega)) ?_; simp only [zq1, zq2, zq3]
   refine regU_alone (S' := fun _ => True) 35 (by decide +kernel) ?_
   intro w7 h7
   have HF8 := Lib.hid (h7.set (by omega))
   obtain ⟨⟨u8, c8⟩, f8⟩ := h7.free (by omega)
   refine reg_do_last 35 (w7.setCell ⟨g3, 0 + t * 1, none⟩ (.int .u32 ((wv B t : Nat) : Int))) rfl rfl (by decide +kernel) rfl (exec_stU rfl rfl (by rw [HR.out]; rfl) c8 f8) ?_
   generalize w7.setCell ⟨g3, 0 + t * 1, none⟩ (.int .u32 ((wv B t : Nat) : Int)) = w8 at *
   clear h7 c8 f8 HW
   go_wp2
   go_roundw
   case rel => exact ⟨⟨t + 1, by omega, by omega, rfl, HF8.out⟩⟩
   case measure => simp only [intOf]; omega
  ·have hte : t = 16 := by omega
   have htd : decide ((t : Int) < 16) = false := decide_eq_false (by omega)
   subst hte
   go_wp2
   obtain ⟨wo, rfl⟩ : ∃ wo : World, wo = wr := ⟨_, rfl⟩
   go_loopw [5] (fun tv wr => WdS w g3 g2 B 64 tv wr) (fun tv _ => 64 - (intOf tv).toNat)
   case atStart => exact ⟨⟨16, by omega, by omega, rfl, HW.out⟩⟩
   case round =>
    clear HW
    obtain ⟨t, ht, ht16, rfl, hW⟩ := hrel.st
    clear hrel
    have HW := Lib.hid hW
    clear hW
    by_cases htl : t < 64
    ·have htd : decide ((t : Int) < 64) = true := decide_eq_true (by omega)
     have hwt : IntKind.i64.wrap ((t : Int) + 1) = (t : Int) + 1 := IntWalk.i64_in _ (by omega)
     have hw15 : IntKind.i64.wrap ((t : Int) - 15) = ((t - 15 : Nat) : Int) := by rw [IntWalk.i64_in _ (by omega)]; omega
     have hw2 : IntKind.i64.wrap ((t : Int) - 2) = ((t - 2 : Nat) : Int) := by rw [IntWalk.i64_in _ (by omega)]; omega
     have hw16 : IntKind.i64.wrap ((t : Int) - 16) = ((t - 16 : Nat) : Int) := by rw [IntWalk.i64_in _ (by omega)]; omega
     have hw7 : IntKind.i64.wrap ((t : Int) - 7) = ((t - 7 : Nat) : Int) := by rw [IntWalk.i64_in _ (by omega)]; omega
     have HR := Lib.hid (show wv B t = add32 (add32 (add32 (wv B (t - 16)) (sig0 (wv B (t - 15)))) (wv B (t - 7))) (sig1 (wv B (t - 2))) by rw [HRC.out t (by omega), if_neg (by omega)])
     go_upto_region 9 with (fail)
     refine regU_begin (fun w' => WdW w g3 g2 B t w') (by kernel_rfl) HW.out.drew ?_
     (apply regU_take 0 rfl rfl (by decide +kernel) rfl); (intro w' hw'; go_simp; rfl); simp only [zq1, zq2, zq3]
     (apply regU_take 1 rfl rfl (by decide +kernel) rfl); (intro w' hw'; go_simp; rfl); simp only [zq1, zq2, zq3]
     refine regU_take 2 (v := .pointer (some ⟨g3, 0 + (t - 15) * 1, none⟩)) rfl rfl (by decide +kernel) rfl (fun w' h => exec_ixW rfl rfl rfl (by omega)) ?_; simp only [zq1, zq2, zq3]
     refine regU_take 3 (v := .int .u32 ((wv B (t - 15) : Nat) : Int)) rfl rfl (by decide +kernel) rfl (fun w' h => exec_load_cell rfl rfl Tryz.underlying86 rfl (WdW.cell h (by omega))) ?_; simp only [zq1, zq2, zq3]
     refine regU_call 4 (f := 134) (args := #[.int .u32 ((wv B (t - 15) : Nat) : Int), .int .i64 7]) (v := .int .u32 ((rotr (wv B (t - 15)) 7 : Nat) : Int)) rfl rfl (by decide +kernel) rfl (fun w' => by kernel_rfl) (fun w' h => (rotr_any _ (wv_lt B _) 7 7 rfl (by omega) w').mono fun e w'' h2 => ⟨h2.1, h.below h2.2⟩) ?_
     simp only [zq1, zq2, zq3]
     (apply regU_take 5 rfl rfl (by decide +kernel) rfl); (intro w' hw'; go_simp; rfl); simp only [zq1, zq2, zq3]
     (apply regU_take 6 rfl rfl (by decide +kernel) rfl); (intro w' hw'; go_simp; rfl); simp only [zq1, zq2, zq3]
     refine regU_take 7 (v := .pointer (some ⟨g3, 0 + (t - 15) * 1, none⟩)) rfl rfl (by decide +kernel) rfl (fun w' h => exec_ixW rfl rfl rfl (by omega)) ?_; simp only [zq1, zq2, zq3]
     refine regU_take 8 (v := .int .u32 ((wv B (t - 15) : Nat) : Int)) rfl rfl (by decide +kernel) rfl (fun w' h => exec_load_cell rfl rfl Tryz.underlying86 rfl (WdW.cell h (by omega))) ?_; simp only [zq1, zq2, zq3]
     refine regU_call 9 (f := 134) (args := #[.int .u32 ((wv B (t - 15) : Nat) : Int), .int .i64 18]) (v := .int .u32 ((rotr (wv B (t - 15)) 18 : Nat) : Int)) rfl rfl (by decide +kernel) rfl (fun w' => by kernel_rfl) (fun w' h => (rotr_any _ (wv_lt B _) 18 18 rfl (by omega) w').mono fun e w'' h2 => ⟨h2.1, h.below h2.2⟩) ?_
     simp only [zq1, zq2, zq3]
     (apply regU_take 10 rfl rfl (by decide +kernel) rfl); (intro w' hw'; go_simp; rfl); simp only [zq1, zq2, zq3]
     (apply regU_take 11 rfl rfl (by decide +kernel) rfl); (intro w' hw'; go_simp; rfl); simp only [zq1, zq2, zq3]
     (apply regU_take 12 rfl rfl (by decide +kernel) rfl); (intro w' hw'; go_simp; rfl); simp only [zq1, zq2, zq3]
     refine regU_take 13 (v := .pointer (some ⟨g3, 0 + (t - 15) * 1, none⟩)) rfl rfl (by decide +kernel) rfl (fun w' h => exec_ixW rfl rfl rfl (by omega)) ?_; simp only [zq1, zq2, zq3]
     refine regU_take 14 (v := .int .u32 ((wv B (t - 15) : Nat) : Int)) rfl rfl (by decide +kernel) rfl (fun w' h => exec_load_cell rfl rfl Tryz.underlying86 rfl (WdW.cell h (by omega))) ?_; simp only [zq1, zq2, zq3]
     refine regU_take 15 (v := .int .u32 ((shr32 (wv B (t - 15)) 3 : Nat) : Int)) rfl rfl (by decide +kernel) rfl (fun w' h => exec_binop (vx := .int .u32 ((wv B (t - 15) : Nat) : Int)) (vy := .int .u64 3) rfl rfl rfl rfl (by rw [o_shr _ _ _ 3 (by omega) (by omega) (wv_lt B _)]; rfl)) ?_; simp only [zq1, zq2, zq3]
     (apply regU_take 16 rfl rfl (by decide +kernel) rfl); (intro w' hw'; go_simp; rfl); simp only [zq1, zq2, zq3]
     (apply regU_take 17 rfl rfl (by decide +kernel) rfl); (intro w' hw'; go_simp; rfl); simp only [zq1, zq2, zq3]
     refine regU_done (by decide +kernel) ?_
     intro w5 h5
     have HW5 := Lib.hid h5
     clear h5 HW
     go_upto_region 10 with (fail)
     refine regU_begin (fun w' => WdW w g3 g2 B t w') (by kernel_rfl) HW5.out.drew ?_
     (apply regU_take 0 rfl rfl (by decide +kernel) rfl); (intro w' hw'; go_simp; rfl); simp only [zq1, zq2, zq3]
     (apply regU_take 1 rfl rfl (by decide +kernel) rfl); (intro w' hw'; go_simp; rfl); simp only [zq1, zq2, zq3]
     refine regU_take 2 (v := .pointer (some ⟨g3, 0 + (t - 2) * 1, none⟩)) rfl rfl (by decide +kernel) rfl (fun w' h => exec_ixW rfl rfl rfl (by omega)) ?_; simp only [zq1, zq2, zq3]
     refine regU_take 3 (v := .int .u32 ((wv B (t - 2) : Nat) : Int)) rfl rfl (by decide +kernel) rfl (fun w' h => exec_load_cell rfl rfl Tryz.underlying86 rfl (WdW.cell h (by omega))) ?_; simp only [zq1, zq2, zq3]
     refine regU_call 4 (f := 134) (args := #[.int .u32 ((wv B (t - 2) : Nat) : Int), .int .i64 17]) (v := .int .u32 ((rotr (wv B (t - 2)) 17 : Nat) : Int)) rfl rfl (by decide +kernel) rfl (fun w' => by kernel_rfl) (fun w' h => (rotr_any _ (wv_lt B _) 17 17 rfl (by omega) w').mono fun e w'' h2 => ⟨h2.1, h.below h2.2⟩) ?_
     simp only [zq1, zq2, zq3]
     (apply regU_take 5 rfl rfl (by decide +kernel) rfl); (intro w' hw'; go_simp; rfl); simp only [zq1, zq2, zq3]
     (apply regU_take 6 rfl rfl (by decide +kernel) rfl); (intro w' hw'; go_simp; rfl); simp only [zq1, zq2, zq3]
     refine regU_take 7 (v := .pointer (some ⟨g3, 0 + (t - 2) * 1, none⟩)) rfl rfl (by decide +kernel) rfl (fun w' h => exec_ixW rfl rfl rfl (by omega)) ?_; simp only [zq1, zq2, zq3]
     refine regU_take 8 (v := .int .u32 ((wv B (t - 2) : Nat) : Int)) rfl rfl (by decide +kernel) rfl (fun w' h => exec_load_cell rfl rfl Tryz.underlying86 rfl (WdW.cell h (by omega))) ?_; simp only [zq1, zq2, zq3]
     refine regU_call 9 (f := 134) (args := #[.int .u32 ((wv B (t - 2) : Nat) : Int), .int .i64 19]) (v := .int .u32 ((rotr (wv B (t - 2)) 19 : Nat) : Int)) rfl rfl (by decide +kernel) rfl (fun w' => by kernel_rfl) (fun w' h => (rotr_any _ (wv_lt B _) 19 19 rfl (by omega) w').mono fun e w'' h2 => ⟨h2.1, h.below h2.2⟩) ?_
     simp only [zq1, zq2, zq3]
     (apply regU_take 10 rfl rfl (by decide +kernel) rfl); (intro w' hw'; go_simp; rfl); simp only [zq1, zq2, zq3]
     (apply regU_take 11 rfl rfl (by decide +kernel) rfl); (intro w' hw'; go_simp; rfl); simp only [zq1, zq2, zq3]
     (apply regU_take 12 rfl rfl (by decide +kernel) rfl); (intro w' hw'; go_simp; rfl); simp only [zq1, zq2, zq3]
     refine regU_take 13 (v := .pointer (some ⟨g3, 0 + (t - 2) * 1, none⟩)) rfl rfl (by decide +kernel) rfl (fun w' h => exec_ixW rfl rfl rfl (by omega)) ?_; simp only [zq1, zq2, zq3]
     refine regU_take 14 (v := .int .u32 ((wv B (t - 2) : Nat) : Int)) rfl rfl (by decide +kernel) rfl (fun w' h => exec_load_cell rfl rfl Tryz.underlying86 rfl (WdW.cell h (by omega))) ?_; simp only [zq1, zq2, zq3]
     refine regU_take 15 (v := .int .u32 ((shr32 (wv B (t - 2)) 10 : Nat) : Int)) rfl rfl (by decide +kernel) rfl (fun w' h => exec_binop (vx := .int .u32 ((wv B (t - 2) : Nat) : Int)) (vy := .int .u64 10) rfl rfl rfl rfl (by rw [o_shr _ _ _ 10 (by omega) (by omega) (wv_lt B _)]; rfl)) ?_; simp only [zq1, zq2, zq3]
     (apply regU_take 16 rfl rfl (by decide +kernel) rfl); (intro w' hw'; go_simp; rfl); simp only [zq1, zq2, zq3]
     (apply regU_take 17 rfl rfl (by decide +kernel) rfl); (intro w' hw'; go_simp; rfl); simp only [zq1, zq2, zq3]
     refine regU_done (by decide +kernel) ?_
     intro w6 h6
     have HW6 := Lib.hid h6
     clear h6 HW5
     go_upto_region 11 with (fail)
     refine regU_begin (fun w' => WdW w g3 g2 B t w') (by kernel_rfl) HW6.out.drew ?_
     (apply regU_take 0 rfl rfl (by decide +kernel) rfl); (intro w' hw'; go_simp; rfl); simp only [zq1, zq2, zq3]
     (apply regU_take 1 rfl rfl (by decide +kernel) rfl); (intro w' hw'; go_simp; rfl); simp only [zq1, zq2, zq3]
     (apply regU_take 2 rfl rfl (by decide +kernel) rfl); (intro w' hw'; go_simp; rfl); simp only [zq1, zq2, zq3]
     refine regU_take 3 (v := .pointer (some ⟨g3, 0 + (t - 16) * 1, none⟩)) rfl rfl (by decide +kernel) rfl (fun w' h => exec_ixW rfl rfl rfl (by omega)) ?_; simp only [zq1, zq2, zq3]
     refine regU_take 4 (v := .int .u32 ((wv B (t - 16) : Nat) : Int)) rfl rfl (by decide +kernel) rfl (fun w' h => exec_load_cell rfl rfl Tryz.underlying86 rfl (WdW.cell h (by omega))) ?_; simp only [zq1, zq2, zq3]
     (apply regU_take 5 rfl rfl (by decide +kernel) rfl); (intro w' hw'; go_simp; rfl); simp only [zq1, zq2, zq3]
     (apply regU_take 6 rfl rfl (by decide +kernel) rfl); (intro w' hw'; go_simp; rfl); simp only [zq1, zq2, zq3]
     (apply regU_take 7 rfl rfl (by decide +kernel) rfl); (intro w' hw'; go_simp; rfl); simp only [zq1, zq2, zq3]
     (apply regU_take 8 rfl rfl (by decide +kernel) rfl); (intro w' hw'; go_simp; rfl); simp only [zq1, zq2, zq3]
     refine regU_take 9 (v := .pointer (some ⟨g3, 0 + (t - 7) * 1, none⟩)) rfl rfl (by decide +kernel) rfl (fun w' h => exec_ixW rfl rfl rfl (by omega)) ?_; simp only [zq1, zq2, zq3]
     refine regU_take 10 (v := .int .u32 ((wv B (t - 7) : Nat) : Int)) rfl rfl (by decide +kernel) rfl (fun w' h => exec_load_cell rfl rfl Tryz.underlying86 rfl (WdW.cell h (by omega))) ?_; simp only [zq1, zq2, zq3]
     (apply regU_take 11 rfl rfl (by decide +kernel) rfl); (intro w' hw'; go_simp; rfl); simp only [zq1, zq2, zq3]
     (apply regU_take 12 rfl rfl (by decide +kernel) rfl); (intro w' hw'; go_simp; rfl); simp only [zq1, zq2, zq3]
     (apply regU_take 13 rfl rfl (by decide +kernel) rfl); (intro w' hw'; go_simp; rfl); simp only [zq1, zq2, zq3]
     refine regU_take 14 (v := .pointer (some ⟨g3, 0 + t * 1, none⟩)) rfl rfl (by decide +kernel) rfl (fun w' h => exec_ixW rfl rfl rfl (by omega)) ?_; simp only [zq1, zq2, zq3]
     refine regU_alone (S' := fun _ => True) 15 (by decide +kernel) ?_
     intro w7 h7
     have HF8 := Lib.hid (h7.set (by omega))
     obtain ⟨⟨u8, c8⟩, f8⟩ := h7.free (by omega)
     refine reg_do_last 15 (w7.setCell ⟨g3, 0 + t * 1, none⟩ (.int .u32 ((wv B t : Nat) : Int))) rfl rfl (by decide +kernel) rfl (exec_stU rfl rfl (by rw [HR.out]; rfl) c8 f8) ?_
     generalize w7.setCell ⟨g3, 0 + t * 1, none⟩ (.int .u32 ((wv B t : Nat) : Int)) = w8 at *
     clear h7 c8 f8 HW6
     go_wp2
     go_roundw
     case rel => exact ⟨⟨t + 1, by omega, by omega, rfl, HF8.out⟩⟩
     case measure => simp only [intOf]; omega
    ·have hte : t = 64 := by omega
     have htd : decide ((t : Int) < 64) = false := decide_eq_false (by omega)
     subst hte
     obtain ⟨c, h1, h2, h3, h4⟩ := HW.out.st
     obtain rfl : c = wA B := by
      apply Array.ext_getElem?
      intro j
      by_cases hj : j < 64
      ·rw [h3 j hj]
       unfold wA
       simp [hj]
      ·rw [Array.getElem?_eq_none (by omega), Array.getElem?_eq_none (by unfold wA; simp; omega)]
     have HS := Lib.hid (And.intro h1 (h4.perm (show _ = pts g2 (.cells zW TW (0, 0)) * (pts g3 (.cells (wA B) TW (0, 0)) * old w) by ac_rfl)))
     have hblk := h4.block
     clear h1 h2 h3 h4 HW
     go_wp2_with (first
      | ((with_reducible (apply wp_load_W hblk (wA_size B))); rfl; rfl; rfl)
      | (refine wpList_store_blk (T := TW) (old := zW) (new := wA B) rfl rfl rfl rfl HS.out.2 (infoW (wA_size B)) (by rw [wA_size]; simp [zW]) (wA_one B) ?_; intro w9 h9))
     have hblk2 := h9.out.2.block
     refine bodyPost_ret (v := .agg (wA B)) ?_ rfl ⟨rfl, (HS.out.1.trans h9.out.1).below_of (h9.out.2.perm (show _ = (pts g2 (.cells (wA B) TW (0, 0)) * pts g3 (.cells (wA B) TW (0, 0))) * old w by ac_rfl))⟩
     exact results_cell_row Tryz.results133 _ _ g2 TW (wA B) (0, 0) _ rfl hblk2 Tryz.underlying221 rfl (infoW (wA_size B))
end Go.Proofs.YteikbikopgabjaaGreatDoor
