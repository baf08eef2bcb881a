import Derived.Test.YteikbikopgabjaaGreatDoorH47
/- Part 48 of a proof; the last part says what is proved. -/
namespace Go.Sha
open Go Go.RowKit Go.Sl
def nestB (B : Nat → Nat) (p : Nat) : Nat → Nat
 | 0 => 0
 | q + 1 => step8 (nestB B p q) (B (p + q))
theorem nest4 {B : Nat → Nat} (hB : ∀ j, B j < 256) (p : Nat) : nestB B p 4 = be4 (B p) (B (p + 1)) (B (p + 2)) (B (p + 3)) := be4_nest (hB _) (hB _) (hB _) (hB _)
def fT (B : Nat → Nat) (t j : Nat) : Nat := if j < t then wv B j else 0
theorem fT_set (B : Nat → Nat) (t : Nat) : (fun j => if j = t then wv B t else fT B t j) = fT B (t + 1) := by
 funext j
 unfold fT
 by_cases h : j = t
 ·subst h; rw [if_pos rfl, if_pos (by omega)]
 ·rw [if_neg h]
  by_cases h2 : j < t
  ·rw [if_pos h2, if_pos (by omega)]
  ·rw [if_neg h2, if_neg (by omega)]
theorem set_set (f : Nat → Nat) (t x y : Nat) : (fun j => if j = t then y else (fun j => if j = t then x else f j) j) = fun j => if j = t then y else f j := by
 funext j
 dsimp only
 split <;> rfl
end Go.Sha
namespace Go.Proofs.YteikbikopgabjaaGreatDoor
open Go.RowKit Go.Sha Go.Sl
attribute [local go_sem high] o_xor o_and o_or o_add
theorem b_addT (t : TypeId) (a b c : Int) (h : a + b = c) (h1 : -9223372036854775808 ≤ c) (h2 : c < 9223372036854775808) : binOp .add t (.int .i64 a) (.int .i64 b) = pure (.int .i64 c) := by
 show (pure (Value.int .i64 (IntKind.i64.wrap (a + b))) : Sem Value) = _
 rw [h, IntWalk.i64_in _ (by omega)]
structure SdW (w0 : World) (g3 g2 : Nat) (f : Nat → Nat) (wr : World) : Prop where
 same : Same w0 wr
 sat : Sat wr (pts g3 (.cells (arr 64 f) TW (0, 0)) * (pts g2 (.cells zW TW (0, 0)) * old w0))
section
variable {w0 wr w' : World} {g3 g2 : Nat} {f : Nat → Nat}
theorem SdW.bel (h : SdW w0 g3 g2 f wr) : Below w0.heap.size w0 wr := h.same.below_of (h.sat.perm (show _ = (pts g3 (.cells (arr 64 f) TW (0, 0)) * pts g2 (.cells zW TW (0, 0))) * old w0 by ac_rfl))
theorem SdW.below (h : SdW w0 g3 g2 f wr) (hb : Below wr.heap.size wr w') : SdW w0 g3 g2 f w' := ⟨h.same.below hb, h.sat.below hb⟩
theorem SdW.drew (h : SdW w0 g3 g2 f wr) : SdW w0 g3 g2 f wr.drew := h.below (Below.refl _ _).drew
theorem SdW.cell (h : SdW w0 g3 g2 f wr) {j : Nat} (hj : j < 64) : wr.cell? ⟨g3, 0 + j * 1, none⟩ = some (.int .u32 ((f j : Nat) : Int)) := by
 rw [cells_at h.sat.block, Nat.zero_add, Nat.mul_one]; exact arr_at 64 f hj
theorem SdW.free (h : SdW w0 g3 g2 f wr) (t : Nat) : wr.frozen? ⟨g3, 0 + t * 1, none⟩ = false := thawed_at h.sat.block _
theorem SdW.set (h : SdW w0 g3 g2 f wr) (i x : Nat) : SdW w0 g3 g2 (fun j => if j = i then x else f j) (wr.setCell ⟨g3, 0 + i * 1, none⟩ (.int .u32 (x : Int))) := by
 rw [Nat.zero_add, Nat.mul_one]
 refine ⟨h.same.setCell _ _, ?_⟩
 have h2 := h.sat.setCell (i := i) (.int .u32 (x : Int))
 rwa [arr_set] at h2
theorem SdW.congr {f' : Nat → Nat} (h : SdW w0 g3 g2 f wr) (e : f = f') : SdW w0 g3 g2 f' wr := e ▸ h
end
structure SdS (w0 : World) (g3 g2 : Nat) (B : Nat → Nat) (tv : Value) (wr : World) : Prop where
 st : ∃ t : Nat, t ≤ 64 ∧ tv = .int .i64 (t : Int) ∧ SdW w0 g3 g2 (fT B t) wr
structure SiS (w0 : World) (g3 g2 : Nat) (B : Nat → Nat) (t : Nat) (qv : Value) (wr : World) : Prop where
 st : ∃ q : Nat, q ≤ 4 ∧ qv = .int .i64 (q : Int) ∧ SdW w0 g3 g2 (fun j => if j = t then nestB B (4 * t) q else fT B t j) wr
set_option maxRecDepth 100000 in
set_option maxHeartbeats 4000000 in
theorem schedule_any (B : Nat → Nat) (hB : ∀ j, B j < 256) (b off cap : Nat) (hcap : 64 ≤ cap) (w : World) (hby : ∀ j, j < 64 → w.cell? ⟨b, off + j, none⟩ = some (.int .u8 ((B j : Nat) : Int))) :
  Calls Tryz.prog 150 #[.slice (some ⟨b, off, none⟩) 64 cap] w fun e w' => e = .returned (.agg (arr 64 (wv B))) ∧ Below w.heap.size w w' := by
 have HBY := Lib.hid (fun W (hb : Below w.heap.size w W) j (hj : j < 64) => (hb.cell (p := ⟨b, off + j, none⟩) (World.block_lt_of_cell? _ _ (hby j hj))).trans (hby j hj))
 have HRC := Lib.hid (fun t (ht : t < 64) => wv_rec B ht)
 have HBL := Lib.hid hB
 have HW0 := Lib.hid (show SdW w (w.heap.size + 1) w.heap.size (fT B 0) ((w.alloc (.cells zW TW)).alloc (.cells zW TW)) from
  ⟨((Same.refl w).alloc _).alloc _, by
   have h := ((Sat.old w).alloc (.cells zW TW)).alloc (.cells zW TW)
   rw [show (w.alloc (.cells zW TW)).heap.size = w.heap.size + 1 by simp] at h
   exact h⟩)
 clear hby hB
 go_enter Tryz.func150, Tryz.ntmps150
 go_upto_region 2 with ((with_reducible (refine wpList_alloc_zero ?_ TW ?_ _ (zeroW _) ?_)); rfl; rfl)
 generalize (w.alloc (.cells zW TW)).alloc (.cells zW TW) = w1 at HW0 ⊢
 rw [show (w.alloc (.cells zW TW)).heap.size = w.heap.size + 1 by simp]
 generalize w.heap.size = g2 at HW0 ⊢
 generalize g2 + 1 = g3 at HW0 ⊢
 go_wp2
 go_loopw [11] (fun tv wr => SdS w g3 g2 B tv wr) (fun tv _ => 64 - (intOf tv).toNat)
 case atStart => exact ⟨⟨0, by omega, rfl, HW0.out⟩⟩
 case round =>
  clear HW0
  obtain ⟨t, ht, rfl, hW⟩ := hrel.st
  clear hrel
  have HW := Lib.hid hW
  clear hW
  by_cases htl : t < 64
  ·have htd : decide ((t : Int) < 64) = true := decide_eq_true (by omega)
   have hwt : IntKind.i64.wrap ((t : Int) + 1) = (t : Int) + 1 := IntWalk.i64_in _ (by omega)
   by_cases ht16 : t < 16
   ·have htd2 : decide ((t : Int) < 16) = true := decide_eq_true (by omega)
    have HR := Lib.hid (show wv B t = nestB B (4 * t) 4 by rw [HRC.out t (by omega), if_pos ht16, nest4 HBL.out])
    have HSL := Lib.hid (show (Instr.sliceAt 131 (.slice (some ⟨b, off, none⟩) 64 cap) (some (.int .i64 (4 * (t : Int)))) (some (.int .i64 (4 * (t : Int) + 4))) none).run Tryz.prog wr = .ok (.slice (some ⟨b, off + 4 * t, none⟩) 4 (cap - 4 * t)) wr by
     rw [show 4 * (t : Int) + 4 = ((4 * t + 4 : Nat) : Int) by omega, show 4 * (t : Int) = ((4 * t : Nat) : Int) by omega, run_sl_both Tryz.underlying131 info_u8 b off 64 cap (4 * t) (4 * t + 4) (by omega) (by omega) wr, if_neg (by omega), Nat.mul_one, show 4 * t + 4 - 4 * t = 4 by omega])
    go_upto_region 6 with (fail)
    refine wp_region_lit ?_
    (apply wpList_runG rfl); (go_simp; first | rfl | exact ⟨rfl, rfl⟩); simp only [Act.put, zq1, zq2, zq3]
    (apply wpList_runG rfl); (go_simp; first | rfl | exact ⟨rfl, rfl⟩); simp only [Act.put, zq1, zq2, zq3]
    refine wpList_runG (v := .int .i64 (4 * (t : Int))) rfl (exec_binop (vx := .int .i64 4) (vy := .int .i64 (t : Int)) rfl rfl rfl rfl (by rw [b_mul _ 4 (t : Int) (4 * (t : Int)) (by omega) (by omega) (by omega)]; rfl)) ?_; simp only [Act.put, zq1, zq2, zq3]
    (apply wpList_runG rfl); (go_simp; first | rfl | exact ⟨rfl, rfl⟩); simp only [Act.put, zq1, zq2, zq3]
    refine wpList_runG (v := .int .i64 (4 * (t : Int))) rfl (exec_binop (vx := .int .i64 4) (vy := .int .i64 (t : Int)) rfl rfl rfl rfl (by rw [b_mul _ 4 (t : Int) (4 * (t : Int)) (by omega) (by omega) (by omega)]; rfl)) ?_; simp only [Act.put, zq1, zq2, zq3]
    refine wpList_runG (v := .int .i64 (4 * (t : Int) + 4)) rfl (exec_binop (vx := .int .i64 (4 * (t : Int))) (vy := .int .i64 4) rfl rfl rfl rfl (by rw [b_addT _ (4 * (t : Int)) 4 (4 * (t : Int) + 4) (by omega) (by omega) (by omega)]; rfl)) ?_; simp only [Act.put, zq1, zq2, zq3]
    refine wpList_runG (v := .slice (some ⟨b, off + 4 * t, none⟩) 4 (cap - 4 * t)) rfl (exec_sl_run rfl rfl HSL.out) ?_; simp only [Act.put, zq1, zq2, zq3]
    (apply wpList_runG rfl); (go_simp; first | rfl | exact ⟨rfl, rfl⟩); simp only [Act.put, zq1, zq2, zq3]
    (apply wpList_runG rfl); (go_simp; first | rfl | exact ⟨rfl, rfl⟩); simp only [Act.put, zq1, zq2, zq3]
    refine wpList_nil ?_
    obtain ⟨wo, rfl⟩ : ∃ wo : World, wo = wr := ⟨_, rfl⟩
    go_wp2
    go_loopw [6, 24] (fun _ qv wr => SiS w g3 g2 B t qv wr) (fun _ qv _ => 4 - (intOf qv).toNat)
    case atStart => exact ⟨⟨0, by omega, rfl, HW.out.congr (by
     funext j
     by_cases h : j = t
     ·subst h; rw [if_pos rfl]; unfold fT nestB; rw [if_neg (by omega)]
     ·rw [if_neg h])⟩⟩
    case round =>
     clear HW
     obtain ⟨q, hq, rfl, hW⟩ := hrel.st
     clear hrel
     have HW := Lib.hid hW
     clear hW
     by_cases hql : q < 4
     ·have hqd : decide ((q : Int) < 4) = true := decide_eq_true (by omega)
      have hwq : IntKind.i64.wrap ((q : Int) + 1) = (q : Int) + 1 := IntWalk.i64_in _ (by omega)
      go_upto_region 8 with (fail)
      refine wp_region_lit ?_
      refine wpList_runG (v := .pointer (some ⟨b, off + 4 * t + q, none⟩)) rfl (exec_ix8 rfl rfl rfl hql) ?_; simp only [Act.put, zq1, zq2, zq3]
      refine wpList_runG (v := .int .u8 ((B (4 * t + q) : Nat) : Int)) rfl (exec_load_cell rfl rfl Tryz.underlying5 rfl (by rw [Nat.add_assoc]; exact HBY.out wr HW.out.bel (4 * t + q) (by omega))) ?_; simp only [Act.put, zq1, zq2, zq3]
      (apply wpList_runG rfl); (go_simp; first | rfl | exact ⟨rfl, rfl⟩); simp only [Act.put, zq1, zq2, zq3]
      refine wpList_nil ?_
      go_upto_region 9 with (fail)
      have c0 := HW.out.cell (j := t) (by omega)
      rw [if_pos rfl] at c0
      refine wp_region_lit ?_
      (apply wpList_runG rfl); (go_simp; first | rfl | exact ⟨rfl, rfl⟩); simp only [Act.put, zq1, zq2, zq3]
      (apply wpList_runG rfl); (go_simp; first | rfl | exact ⟨rfl, rfl⟩); simp only [Act.put, zq1, zq2, zq3]
      refine wpList_runG (v := .pointer (some ⟨g3, 0 + t * 1, none⟩)) rfl (exec_ixW rfl rfl rfl (by omega)) ?_; simp only [Act.put, zq1, zq2, zq3]
      refine wpList_runG (v := .int .u32 ((nestB B (4 * t) q : Nat) : Int)) rfl (exec_load_cell rfl rfl Tryz.underlying86 rfl c0) ?_; simp only [Act.put, zq1, zq2, zq3]
      refine wpList_runG (v := .int .u32 ((shl32 (nestB B (4 * t) q) 8 : Nat) : Int)) rfl (exec_binop (vx := .int .u32 ((nestB B (4 * t) q : Nat) : Int)) (vy := .int .u64 8) rfl rfl rfl rfl (by rw [o_shl _ _ _ 8 (by omega) (by omega)]; rfl)) ?_; simp only [Act.put, zq1, zq2, zq3]
      (apply wpList_runG rfl); (go_simp; first | rfl | exact ⟨rfl, rfl⟩); simp only [Act.put, zq1, zq2, zq3]
      refine wpList_runG (v := .int .u32 ((B (4 * t + q) : Nat) : Int)) rfl (exec_convert rfl rfl (o_conv (B (4 * t + q)) (HBL.out _) wr)) ?_; simp only [Act.put, zq1, zq2, zq3]
      refine wpList_runG (v := .int .u32 ((nestB B (4 * t) (q + 1) : Nat) : Int)) rfl (exec_binop (vx := .int .u32 ((shl32 (nestB B (4 * t) q) 8 : Nat) : Int)) (vy := .int .u32 ((B (4 * t + q) : Nat) : Int)) rfl rfl rfl rfl (by rw [o_or]; rfl)) ?_; simp only [Act.put, zq1, zq2, zq3]
      refine wpList_runG (v := .pointer (some ⟨g3, 0 + t * 1, none⟩)) rfl (exec_ixW rfl rfl rfl (by omega)) ?_; simp only [Act.put, zq1, zq2, zq3]
      refine wpList_do (w' := wr.setCell ⟨g3, 0 + t * 1, none⟩ (.int .u32 ((nestB B (4 * t) (q + 1) : Nat) : Int))) rfl (exec_stU rfl rfl rfl c0 (HW.out.free t)) ?_
      have HE := Lib.hid ((HW.out.set t (nestB B (4 * t) (q + 1))).congr (set_set _ _ _ _))
      clear c0 HW
      generalize wr.setCell ⟨g3, 0 + t * 1, none⟩ (.int .u32 ((nestB B (4 * t) (q + 1) : Nat) : Int)) = w8 at HE ⊢
      refine wpList_nil ?_
      go_wp2
      go_roundw
      case rel => exact ⟨⟨q + 1, by omega, by push_cast; rfl, HE.out⟩⟩
      case measure => simp only [intOf]; omega
     ·have hqe : q = 4 := by omega
      have hqd : decide ((q : Int) < 4) = false := decide_eq_false (by omega)
      subst hqe
      have HE := Lib.hid (HW.out.congr (show _ = fT B (t + 1) by rw [← HR.out]; exact fT_set B t))
      clear HW
      go_wp2
      go_roundw
      case rel => exact ⟨⟨t + 1, by omega, by push_cast; rfl, HE.out⟩⟩
      case measure => simp only [intOf]; omega
   ·have htd2 : decide ((t : Int) < 16) = false := decide_eq_false (by omega)
    have HR := Lib.hid (show wv B t = add32 (add32 (add32 (wv B (t - 16)) (sig0 (wv B (t - 15)))) (wv B (t - 7))) (sig1 (wv B (t - 2))) by rw [HRC.out t (by omega), if_neg (by omega)])
    have HF := Lib.hid (fun j (hj : j < t) => show fT B t j = wv B j from if_pos hj)
    go_upto_region 11 with (fail)
    refine regU_begin (fun w' => SdW w g3 g2 (fT B t) w') (by kernel_rfl) HW.out.drew ?_
    (apply regU_take 0 rfl rfl (by decide +kernel) rfl); (intro w' hw'; go_simp; rfl); simp only [zq1, zq2, zq3]
    refine regU_take 1 (v := .int .i64 ((t - 15 : Nat) : Int)) rfl rfl (by decide +kernel) rfl (fun w' h => exec_binop (vx := .int .i64 (t : Int)) (vy := .int .i64 15) rfl rfl rfl rfl (by rw [b_sub _ (t : Int) 15 ((t - 15 : Nat) : Int) (by omega) (by omega) (by omega)]; rfl)) ?_; simp only [zq1, zq2, zq3]
    refine regU_take 2 (v := .pointer (some ⟨g3, 0 + (t - 15) * 1, none⟩)) rfl rfl (by decide +kernel) rfl (fun w' h => exec_ixW rfl rfl rfl (by omega)) ?_; simp only [zq1, zq2, zq3]
    refine regU_take 3 (v := .int .u32 ((wv B (t - 15) : Nat) : Int)) rfl rfl (by decide +kernel) rfl (fun w' h => exec_load_cell rfl rfl Tryz.underlying86 rfl (by rw [← HF.out (t - 15) (by omega)]; exact SdW.cell h (by omega))) ?_; simp only [zq1, zq2, zq3]
    (apply regU_take 4 rfl rfl (by decide +kernel) rfl); (intro w' hw'; go_simp; rfl); simp only [zq1, zq2, zq3]
    refine regU_take 5 (v := .int .i64 ((t - 2 : Nat) : Int)) rfl rfl (by decide +kernel) rfl (fun w' h => exec_binop (vx := .int .i64 (t : Int)) (vy := .int .i64 2) rfl rfl rfl rfl (by rw [b_sub _ (t : Int) 2 ((t - 2 : Nat) : Int) (by omega) (by omega) (by omega)]; rfl)) ?_; simp only [zq1, zq2, zq3]
    refine regU_take 6 (v := .pointer (some ⟨g3, 0 + (t - 2) * 1, none⟩)) rfl rfl (by decide +kernel) rfl (fun w' h => exec_ixW rfl rfl rfl (by omega)) ?_; simp only [zq1, zq2, zq3]
    refine regU_take 7 (v := .int .u32 ((wv B (t - 2) : Nat) : Int)) rfl rfl (by decide +kernel) rfl (fun w' h => exec_load_cell rfl rfl Tryz.underlying86 rfl (by rw [← HF.out (t - 2) (by omega)]; exact SdW.cell h (by omega))) ?_; simp only [zq1, zq2, zq3]
    (apply regU_take 8 rfl rfl (by decide +kernel) rfl); (intro w' hw'; go_simp; rfl); simp only [zq1, zq2, zq3]
    (apply regU_take 9 rfl rfl (by decide +kernel) rfl); (intro w' hw'; go_simp; rfl); simp only [zq1, zq2, zq3]
    refine regU_done (by decide +kernel) ?_
    intro w5 h5
    have HW5 := Lib.hid h5
    have HP := Lib.hid (wv_lt B (t - 15))
    have HQ := Lib.hid (wv_lt B (t - 2))
    generalize wv B (t - 15) = p at HR HP ⊢
    generalize wv B (t - 2) = q at HR HQ ⊢
    clear h5 HW
    go_upto_region 12 with (fail)
    refine wp_region_lit ?_
    (apply wpList_runG rfl); (go_simp; first | rfl | exact ⟨rfl, rfl⟩); simp only [Act.put, zq1, zq2, zq3]
    refine wpList_callC rfl (by kernel_rfl) (R := fun v W' => v = .int .u32 ((rotr p 7 : Nat) : Int) ∧ w5 = W') ((rotl_any p HP.out 7 (-7) rfl (by omega) (by omega) w5).mono fun e W' h => ⟨_, h.1, rfl, h.2.symm⟩) ?_; rintro _ _ ⟨rfl, rfl⟩; simp only [Act.put, zq1, zq2, zq3]
    (apply wpList_runG rfl); (go_simp; first | rfl | exact ⟨rfl, rfl⟩); simp only [Act.put, zq1, zq2, zq3]
    refine wpList_callC rfl (by kernel_rfl) (R := fun v W' => v = .int .u32 ((rotr p 18 : Nat) : Int) ∧ w5 = W') ((rotl_any p HP.out 18 (-18) rfl (by omega) (by omega) w5).mono fun e W' h => ⟨_, h.1, rfl, h.2.symm⟩) ?_; rintro _ _ ⟨rfl, rfl⟩; simp only [Act.put, zq1, zq2, zq3]
    refine wpList_runG (v := .int .u32 ((xor32 (rotr p 7) (rotr p 18) : Nat) : Int)) rfl (exec_binop (vx := .int .u32 ((rotr p 7 : Nat) : Int)) (vy := .int .u32 ((rotr p 18 : Nat) : Int)) rfl rfl rfl rfl (by rw [o_xor]; rfl)) ?_; simp only [Act.put, zq1, zq2, zq3]
    (apply wpList_runG rfl); (go_simp; first | rfl | exact ⟨rfl, rfl⟩); simp only [Act.put, zq1, zq2, zq3]
    refine wpList_runG (v := .int .u32 ((shr32 p 3 : Nat) : Int)) rfl (exec_binop (vx := .int .u32 (p : Int)) (vy := .int .u64 3) rfl rfl rfl rfl (by rw [o_shr _ _ _ 3 (by omega) (by omega) HP.out]; rfl)) ?_; simp only [Act.put, zq1, zq2, zq3]
    refine wpList_runG (v := .int .u32 ((sig0 p : Nat) : Int)) rfl (exec_binop (vx := .int .u32 ((xor32 (rotr p 7) (rotr p 18) : Nat) : Int)) (vy := .int .u32 ((shr32 p 3 : Nat) : Int)) rfl rfl rfl rfl (by rw [o_xor]; rfl)) ?_; simp only [Act.put, zq1, zq2, zq3]
    (apply wpList_runG rfl); (go_simp; first | rfl | exact ⟨rfl, rfl⟩); simp only [Act.put, zq1, zq2, zq3]
    refine wpList_nil ?_
    go_upto_region 13 with (fail)
    refine wp_region_lit ?_
    (apply wpList_runG rfl); (go_simp; first | rfl | exact ⟨rfl, rfl⟩); simp only [Act.put, zq1, zq2, zq3]
    refine wpList_callC rfl (by kernel_rfl) (R := fun v W' => v = .int .u32 ((rotr q 17 : Nat) : Int) ∧ w5 = W') ((rotl_any q HQ.out 17 (-17) rfl (by omega) (by omega) w5).mono fun e W' h => ⟨_, h.1, rfl, h.2.symm⟩) ?_; rintro _ _ ⟨rfl, rfl⟩; simp only [Act.put, zq1, zq2, zq3]
    (apply wpList_runG rfl); (go_simp; first | rfl | exact ⟨rfl, rfl⟩); simp only [Act.put, zq1, zq2, zq3]
    refine wpList_callC rfl (by kernel_rfl) (R := fun v W' => v = .int .u32 ((rotr q 19 : Nat) : Int) ∧ w5 = W') ((rotl_any q HQ.out 19 (-19) rfl (by omega) (by omega) w5).mono fun e W' h => ⟨_, h.1, rfl, h.2.symm⟩) ?_; rintro _ _ ⟨rfl, rfl⟩; simp only [Act.put, zq1, zq2, zq3]
    refine wpList_runG (v := .int .u32 ((xor32 (rotr q 17) (rotr q 19) : Nat) : Int)) rfl (exec_binop (vx := .int .u32 ((rotr q 17 : Nat) : Int)) (vy := .int .u32 ((rotr q 19 : Nat) : Int)) rfl rfl rfl rfl (by rw [o_xor]; rfl)) ?_; simp only [Act.put, zq1, zq2, zq3]
    (apply wpList_runG rfl); (go_simp; first | rfl | exact ⟨rfl, rfl⟩); simp only [Act.put, zq1, zq2, zq3]
    refine wpList_runG (v := .int .u32 ((shr32 q 10 : Nat) : Int)) rfl (exec_binop (vx := .int .u32 (q : Int)) (vy := .int .u64 10) rfl rfl rfl rfl (by rw [o_shr _ _ _ 10 (by omega) (by omega) HQ.out]; rfl)) ?_; simp only [Act.put, zq1, zq2, zq3]
    refine wpList_runG (v := .int .u32 ((sig1 q : Nat) : Int)) rfl (exec_binop (vx := .int .u32 ((xor32 (rotr q 17) (rotr q 19) : Nat) : Int)) (vy := .int .u32 ((shr32 q 10 : Nat) : Int)) rfl rfl rfl rfl (by rw [o_xor]; rfl)) ?_; simp only [Act.put, zq1, zq2, zq3]
    (apply wpList_runG rfl); (go_simp; first | rfl | exact ⟨rfl, rfl⟩); simp only [Act.put, zq1, zq2, zq3]
    refine wpList_nil ?_
    generalize sig0 p = s0 at HR ⊢
    generalize sig1 q = s1 at HR ⊢
    go_upto_region 14 with (fail)
    refine regU_begin (fun w' => SdW w g3 g2 (fT B t) w') (by kernel_rfl) HW5.out.drew ?_
    (apply regU_take 0 rfl rfl (by decide +kernel) rfl); (intro w' hw'; go_simp; rfl); simp only [zq1, zq2, zq3]
    (apply regU_take 1 rfl rfl (by decide +kernel) rfl); (intro w' hw'; go_simp; rfl); simp only [zq1, zq2, zq3]
    refine regU_take 2 (v := .int .i64 ((t - 16 : Nat) : Int)) rfl rfl (by decide +kernel) rfl (fun w' h => exec_binop (vx := .int .i64 (t : Int)) (vy := .int .i64 16) rfl rfl rfl rfl (by rw [b_sub _ (t : Int) 16 ((t - 16 : Nat) : Int) (by omega) (by omega) (by omega)]; rfl)) ?_; simp only [zq1, zq2, zq3]
    refine regU_take 3 (v := .pointer (some ⟨g3, 0 + (t - 16) * 1, none⟩)) rfl rfl (by decide +kernel) rfl (fun w' h => exec_ixW rfl rfl rfl (by omega)) ?_; simp only [zq1, zq2, zq3]
    refine regU_take 4 (v := .int .u32 ((wv B (t - 16) : Nat) : Int)) rfl rfl (by decide +kernel) rfl (fun w' h => exec_load_cell rfl rfl Tryz.underlying86 rfl (by rw [← HF.out (t - 16) (by omega)]; exact SdW.cell h (by omega))) ?_; simp only [zq1, zq2, zq3]
    (apply regU_take 5 rfl rfl (by decide +kernel) rfl); (intro w' hw'; go_simp; rfl); simp only [zq1, zq2, zq3]
    (apply regU_take 6 rfl rfl (by decide +kernel) rfl); (intro w' hw'; go_simp; rfl); simp only [zq1, zq2, zq3]
    (apply regU_take 7 rfl rfl (by decide +kernel) rfl); (intro w' hw'; go_simp; rfl); simp only [zq1, zq2, zq3]
    refine regU_take 8 (v := .int .i64 ((t - 7 : Nat) : Int)) rfl rfl (by decide +kernel) rfl (fun w' h => exec_binop (vx := .int .i64 (t : Int)) (vy := .int .i64 7) rfl rfl rfl rfl (by rw [b_sub _ (t : Int) 7 ((t - 7 : Nat) : Int) (by omega) (by omega) (by omega)]; rfl)) ?_; simp only [zq1, zq2, zq3]
    refine regU_take 9 (v := .pointer (some ⟨g3, 0 + (t - 7) * 1, none⟩)) rfl rfl (by decide +kernel) rfl (fun w' h => exec_ixW rfl rfl rfl (by omega)) ?_; simp only [zq1, zq2, zq3]
    refine regU_take 10 (v := .int .u32 ((wv B (t - 7) : Nat) : Int)) rfl rfl (by decide +kernel) rfl (fun w' h => exec_load_cell rfl rfl Tryz.underlying86 rfl (by rw [← HF.out (t - 7) (by omega)]; exact SdW.cell h (by omega))) ?_; simp only [zq1, zq2, zq3]
    (apply regU_take 11 rfl rfl (by decide +kernel) rfl); (intro w' hw'; go_simp; rfl); simp only [zq1, zq2, zq3]
    (apply regU_take 12 rfl rfl (by decide +kernel) rfl); (intro w' hw'; go_simp; rfl); simp only [zq1, zq2, zq3]
    (apply regU_take 13 rfl rfl (by decide +kernel) rfl); (intro w' hw'; go_simp; rfl); simp only [zq1, zq2, zq3]
    refine regU_take 14 (v := .pointer (some ⟨g3, 0 + t * 1, none⟩)) rfl rfl (by decide +kernel) rfl (fun w' h => exec_ixW rfl rfl rfl (by omega)) ?_; simp only [zq1, zq2, zq3]
    refine regU_alone (S' := fun _ => True) 15 (by decide +kernel) ?_
    intro w7 h7
    have HF8 := Lib.hid ((h7.set t (wv B t)).congr (fT_set B t))
    have c8 := h7.cell (j := t) (by omega)
    have f8 := h7.free t
    refine reg_do_last 15 (w7.setCell ⟨g3, 0 + t * 1, none⟩ (.int .u32 ((wv B t : Nat) : Int))) rfl rfl (by decide +kernel) rfl (exec_stU rfl rfl (by rw [HR.out]; rfl) c8 f8) ?_
    generalize w7.setCell ⟨g3, 0 + t * 1, none⟩ (.int .u32 ((wv B t : Nat) : Int)) = w8 at *
    clear h7 c8 f8 HW5
    go_wp2
    go_roundw
    case rel => exact ⟨⟨t + 1, by omega, by push_cast; rfl, HF8.out⟩⟩
    case measure => simp only [intOf]; omega
  ·have hte : t = 64 := by omega
   have htd : decide ((t : Int) < 64) = false := decide_eq_false (by omega)
   subst hte
   have hfe : arr 64 (fT B 64) = arr 64 (wv B) := by
    apply Array.ext_getElem?
    intro j
    by_cases hj : j < 64
    ·rw [arr_at _ _ hj, arr_at _ _ hj]; unfold fT; rw [if_pos hj]
    ·rw [Array.getElem?_eq_none (by rw [arr_size]; omega), Array.getElem?_eq_none (by rw [arr_size]; omega)]
   have h1 := HW.out.same
   have h4 := HW.out.sat
   rw [hfe] at h4
   have HS := Lib.hid (And.intro h1 (h4.perm (show _ = pts g2 (.cells zW TW (0, 0)) * (pts g3 (.cells (arr 64 (wv B)) TW (0, 0)) * old w) by ac_rfl)))
   have hblk := h4.block
   clear h1 h4 HW hfe
   go_wp2_with (first
    | ((with_reducible (apply wp_load_W hblk (arr_size _ _))); rfl; rfl; rfl)
    | (refine wpList_store_blk (T := TW) (old := zW) (new := arr 64 (wv B)) rfl rfl rfl rfl HS.out.2 (infoW (arr_size _ _)) (by rw [arr_size]; simp [zW]) (arr_one _ _) ?_; intro w9 h9))
   have hblk2 := h9.out.2.block
   refine bodyPost_ret (v := .agg (arr 64 (wv B))) ?_ rfl ⟨rfl, (HS.out.1.trans h9.out.1).below_of (h9.out.2.perm (show _ = (pts g2 (.cells (arr 64 (wv B)) TW (0, 0)) * pts g3 (.cells (arr 64 (wv B)) TW (0, 0))) * old w by ac_rfl))⟩
   exact results_cell_row Tryz.results150 _ _ g2 TW (arr 64 (wv B)) (0, 0) _ rfl hblk2 Tryz.underlying221 rfl (infoW (arr_size _ _))
end Go.Proofs.YteikbikopgabjaaGreatDoor
