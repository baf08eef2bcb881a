import Derived.Test.YtmgcgdkndkibgaaGreatAb
import Derived.Test.YtmgcgdkndkibgaaGreatAq
import Derived.Test.YtmgcgdkndkibgaaGreatAw
/- solventlaw28: build with too many operations; grown. -/
namespace Go.Proofs.YtmgcgdkndkibgaaGreat
open Go.RowKit Go.Vol Go.Sl

set_option maxRecDepth 20000 in
set_option maxHeartbeats 4000000 in
theorem build_no (sv : Value) (l : List VOp) (w : World) (hscr : ScrV w sv l) (hl : 80 < l.length) :
    Calls Tryz.prog 9 #[sv] w fun e w' => e = .returned (.tuple #[.pointer none, .agg #[nilV, nilV], .bool false]) ∧ Below w.heap.size w w' := by
  obtain ⟨ao, cap, rfl, hm, hc⟩ := hscr
  have hld : decide ((80 : Int) < (l.length : Int)) = true := decide_eq_true (by omega)
  have H0 := Lib.hid (show Same w (w.alloc (.cells #[nilV, nilV] TRS)) ∧ Sat (w.alloc (.cells #[nilV, nilV] TRS)) (pts w.heap.size (.cells #[nilV, nilV] TRS (0, 0)) * old w) from ⟨(Same.refl w).alloc _, (Sat.old w).alloc _⟩)
  clear hc
  go_enter Tryz.func9, Tryz.ntmps9
  go_upto_region 3 with (go_at_call 34; refine (new_any _).mono ?_; rintro e w1 ⟨p0, rfl, h1⟩)
  have hb1 := h1.out.1
  have hsz : w.heap.size < w1.heap.size := by have := hb1.size; rw [World.size_alloc] at this; omega
  have H1 := Lib.hid (show Bx w (w1.alloc (.cells #[nilV, nilV] TRS)) w.heap.size w1.heap.size nilV nilV from ⟨(H0.out.1.trans (same_below hb1)).alloc _, ((H0.out.2.keep hb1.block).alloc (.cells #[nilV, nilV] TRS)).perm (by ac_rfl)⟩)
  clear h1 H0 hb1
  generalize hW : w1.alloc (.cells #[.slice none 0 0, .slice none 0 0] TRS) = w2 at ⊢
  rw [show w1.alloc (.cells #[nilV, nilV] TRS) = w2 from hW] at H1
  clear hW
  generalize w1.heap.size = G at H1 hsz ⊢
  have hS0 : (w2.drew).rangeAt G 0 [nilV, nilV] := by
    have h1 := cells_at H1.out.g
    intro j x hx
    rw [show w2.drew.cell? ⟨G, 0 + j, none⟩ = w2.cell? ⟨G, 0 + j, none⟩ from rfl, h1, Nat.zero_add]
    simpa using hx
  refine reg_begin (fun w' => w'.rangeAt G 0 [nilV, nilV]) (by kernel_rfl) ?_
  have hB2 : w2.drew.heap[w.heap.size]? = some (.cells #[nilV, nilV] TRS (0, 0)) := H1.out.2.block
  have hkp : ∀ k, k ≠ w.heap.size → ((w2.drew.setCell ⟨w.heap.size, 0, none⟩ nilV).setCell ⟨w.heap.size, 1, none⟩ nilV).heap[k]? = w2.heap[k]? := fun k h2 => (heap_setCell_other _ _ _ _ h2).trans (heap_setCell_other _ _ _ _ h2)
  have hS1 : ((w2.drew.setCell ⟨w.heap.size, 0, none⟩ nilV).setCell ⟨w.heap.size, 1, none⟩ nilV).rangeAt G 0 [nilV, nilV] := by
    intro j x hx
    rw [World.cell?_of_block (w := w2) (hkp G (by omega))]
    exact hS0 j x hx
  refine reg_take 0 (v := .agg #[nilV, nilV]) rfl rfl (by decide +kernel) rfl (fun w' h => exec_load rfl rfl (run_loadAt_mid w' G 0 TRS _ _ h Tryz.underlying26 rfl (by kernel_rfl))) hS0 ?_; simp only [List.setIfInBounds_toArray, List.set_cons_succ, List.set_cons_zero]
  (apply reg_take 1 rfl rfl (by decide +kernel) rfl); (rintro w' h1; go_simp; rfl); exact hS0; simp only [List.setIfInBounds_toArray, List.set_cons_succ, List.set_cons_zero]
  refine reg_do 2 ((w2.drew.setCell ⟨w.heap.size, 0, none⟩ nilV).setCell ⟨w.heap.size, 1, none⟩ nilV) rfl rfl (by decide +kernel) rfl (exec_store rfl rfl rfl (run_storeAt_mid w2.drew w.heap.size 0 TRS #[nilV, nilV] (box_there hB2) (by kernel_rfl) (by simp [Value.oneCell', nilV]))) (hS1) ?_
  (apply reg_take 3 rfl rfl (by decide +kernel) rfl); (rintro w' h1; go_simp; rfl); exact hS1; simp only [List.setIfInBounds_toArray, List.set_cons_succ, List.set_cons_zero]
  refine reg_done (by decide +kernel) ?_
  go_wp2
  have hbox := box_set hB2 nilV nilV
  refine bodyPost_ret (results_pcb rfl rfl rfl rfl hbox) rfl ?_
  refine ⟨rfl, ?_⟩
  have hbb := H1.out.below
  exact ⟨hbb.os, hbb.tape, hbb.output, by have := hbb.size; show w.heap.size ≤ _; simpa [World.setCell] using this, fun k hk => by rw [hkp k (by omega)]; exact hbb.block k hk⟩

structure GnSt (w0 : World) (g1 g2 : Nat) (f1 f2 : Nat → Int × Int) (i : Value) (wr : World) : Prop where
  st : ∃ k : Nat, k ≤ 16 ∧ i = .int .i64 (k : Int) ∧ Hid (Same w0 wr ∧ Sat wr (pts g2 (.cells (useA f2) TUse (0, 0)) * (pts g1 (.cells (useA f1) TUse (0, 0)) * old w0)))
theorem useA_cells {w : World} {g : Nat} {f : Nat → Int × Int} {F : HProp} (h : Sat w (pts g (.cells (useA f) TUse (0, 0)) * F)) {k : Nat} (hk : k < 16) : w.cell? ⟨g, k * 2, none⟩ = some (.int .i64 (f k).1) ∧ w.cell? ⟨g, k * 2 + 1, none⟩ = some (.int .i64 (f k).2) := by
  obtain ⟨a0, a1⟩ := useL_at f hk
  have hp := h.block
  exact ⟨by rw [cells_at hp]; simpa [useA] using a0, by rw [cells_at hp]; simpa [useA] using a1⟩
theorem exec_neq_use {o : Oper} {a : Act} {w : World} {x y : Operand} {u v : Int} (ho : o.op = .binOp .neq TUse x y TUse) (hx : a.eval x = .agg #[.int .i64 u, .int .i64 v]) (hy : a.eval y = .agg #[.int .i64 u, .int .i64 v]) : (execOp a.eval o).run Tryz.prog w = .ok (.value (.bool false)) w := by
  have h1 : (u == u) = true := beq_self_eq_true u
  have h2 : (v == v) = true := beq_self_eq_true v
  unfold execOp
  rw [ho]
  simp only [hx, hy]
  go_simp
set_option maxRecDepth 20000 in
set_option maxHeartbeats 4000000 in
theorem grown_any (p q : Nat) (S T : SpaceM) (ten dv ds : Int) (w : World) (hS : SpaceAt TNode TSp w p S) (hwf : S.WF) (hT : SpaceAt TNode TSp w q T) (hwt : T.WF)
    (h : ∀ k : Nat, k < 16 → useOf T k = if (k : Int) = ten then ((useOf S k).1 + dv, (useOf S k).2 + ds) else useOf S k) :
    Calls Tryz.prog 32 #[.pointer (some ⟨p, 0, none⟩), .pointer (some ⟨q, 0, none⟩), .int .i64 ten, .agg #[.int .i64 dv, .int .i64 ds]] w fun e w' => e = .returned (.bool true) ∧ Below w.heap.size w w' := by
  have hb0 := (Below.refl w.heap.size w).alloc (Nat.le_refl _) (.cells #[.int .i64 dv, .int .i64 ds] TUse)
  have HO1 := Lib.hid (of_any p S (w.alloc (.cells #[.int .i64 dv, .int .i64 ds] TUse)) (hS.below hb0) hwf)
  have HO2 := Lib.hid (fun (W : World) (hb : Below (w.alloc (.cells #[.int .i64 dv, .int .i64 ds] TUse)).heap.size (w.alloc (.cells #[.int .i64 dv, .int .i64 ds] TUse)) W) => of_any q T W ((hT.below hb0).below hb) hwt)
  have HB := Lib.hid (And.intro hb0 (heap_alloc_new w (.cells #[.int .i64 dv, .int .i64 ds] TUse)))
  have HU := Lib.hid (fun k => use_bound T hwt k)
  have HH := Lib.hid h
  clear hS hT hwf hwt h hb0
  go_enter Tryz.func32, Tryz.ntmps32
  go_wp2_with (first
    | (go_at_call 11; with_reducible refine HO1.out.mono ?_; rintro e w1 ⟨g1, rfl, h1⟩)
    | (go_at_call 11; refine (HO2.out _ (h1.out.1.below_of h1.out.2)).mono ?_; rintro e w2 ⟨g2, rfl, h2⟩))
  have H2 := Lib.hid (And.intro (h1.out.1.trans h2.out.1) (sat_old h2.out.2 h1.out.2))
  clear h1 h2 HO1 HO2
  generalize useOf S = f1 at *
  generalize useOf T = f2 at *
  generalize hA : w.heap.size = A at HB ⊢
  have hbx : ∀ W, Sat W (pts g2 (.cells (useA f2) TUse (0, 0)) * (pts g1 (.cells (useA f1) TUse (0, 0)) * old (w.alloc (.cells #[.int .i64 dv, .int .i64 ds] TUse)))) → W.heap[A]? = some (.cells #[.int .i64 dv, .int .i64 ds] TUse (0, 0)) := fun W h => by
    have h3 := Sat.of_old (P := pts g2 (.cells (useA f2) TUse (0, 0)) * pts g1 (.cells (useA f1) TUse (0, 0))) (h.perm (by ac_rfl)) A (by rw [World.size_alloc]; omega)
    rw [h3]; exact HB.out.2
  have HBX := Lib.hid hbx
  clear hbx
  generalize w.alloc (.cells #[.int .i64 dv, .int .i64 ds] TUse) = w0 at HB H2 HBX
  go_loopw [27] (fun i wr => GnSt w0 g1 g2 f1 f2 i wr) (fun i _ => 16 - (intOf i).toNat)
  case atStart => exact ⟨⟨0, Nat.zero_le _, rfl, H2.out⟩⟩
  case round =>
    clear H2
    obtain ⟨k, hk, rfl, HX⟩ := hrel.st
    clear hrel
    by_cases hlt : k < 16
    · have hltd : decide ((k : Int) < 16) = true := decide_eq_true (by omega)
      have hki : (k : Int) ≤ 16 := by omega
      have hwk : IntKind.i64.wrap ((k : Int) + 1) = (k : Int) + 1 := IntWalk.i64_in _ (by omega)
      have hu := HU.out k
      have hh := HH.out k hlt
      obtain ⟨a0, a1⟩ := useA_cells (HX.out.2.perm (show _ = pts g1 (.cells (useA f1) TUse (0, 0)) * (pts g2 (.cells (useA f2) TUse (0, 0)) * old w0) from by ac_rfl)) hlt
      have HF := Lib.hid (And.intro hu hh)
      clear hu hh
      have H5 := Lib.hid (And.intro (HX.out.1.alloc (.cells #[.int .i64 (f1 k).1, .int .i64 (f1 k).2] TUse)) (HX.out.2.alloc (.cells #[.int .i64 (f1 k).1, .int .i64 (f1 k).2] TUse)))
      go_upto_region 7 with (fail)
      clear a0 a1
      generalize wr.alloc (.cells #[.int .i64 (f1 k).1, .int .i64 (f1 k).2] TUse) = W at H5 ⊢
      generalize wr.heap.size = m at H5 ⊢
      have c0 : W.cell? ⟨m, 0, none⟩ = some (.int .i64 (f1 k).1) := cells_at H5.out.2.block 0
      have c1 : W.cell? ⟨m, 1, none⟩ = some (.int .i64 (f1 k).2) := cells_at H5.out.2.block 1
      cases he : ((k : Int) == ten)
      · have hne : ¬ (k : Int) = ten := by intro h; rw [h, beq_self_eq_true] at he; cases he
        have hf : f2 k = f1 k := by rw [HF.out.2, if_neg hne]
        clear hne
        go_upto_region 9 with (fail)
        clear c0 c1
        rw [← hf] at H5 ⊢
        have H6 := H5
        clear H5
        obtain ⟨ti, hti, hz0, hts, hz2⟩ := info_parts info_use
        obtain ⟨b0, b1⟩ := useA_cells H6.out.2.right hlt
        have hS0 : (fun w' : World => w'.cell? ⟨m, 0, none⟩ = some (.int .i64 (f2 k).1) ∧ w'.cell? ⟨m, 1, none⟩ = some (.int .i64 (f2 k).2) ∧ w'.cell? ⟨g2, k * 2, none⟩ = some (.int .i64 (f2 k).1) ∧ w'.cell? ⟨g2, k * 2 + 1, none⟩ = some (.int .i64 (f2 k).2)) W.drew := ⟨cells_at H6.out.2.block 0, cells_at H6.out.2.block 1, b0, b1⟩
        refine reg_begin (fun w' => w'.cell? ⟨m, 0, none⟩ = some (.int .i64 (f2 k).1) ∧ w'.cell? ⟨m, 1, none⟩ = some (.int .i64 (f2 k).2) ∧ w'.cell? ⟨g2, k * 2, none⟩ = some (.int .i64 (f2 k).1) ∧ w'.cell? ⟨g2, k * 2 + 1, none⟩ = some (.int .i64 (f2 k).2)) (by kernel_rfl) ?_
        (apply reg_take 0 rfl rfl (by decide +kernel) rfl); (rintro w' ⟨h1, h2, h3, h4⟩; go_simp; rfl); exact hS0; simp only [List.setIfInBounds_toArray, List.set_cons_succ, List.set_cons_zero]
        (apply reg_take 1 rfl rfl (by decide +kernel) rfl); (rintro w' ⟨h1, h2, h3, h4⟩; go_simp; rfl); exact hS0; simp only [List.setIfInBounds_toArray, List.set_cons_succ, List.set_cons_zero]
        (apply reg_take 2 rfl rfl (by decide +kernel) rfl); (rintro w' ⟨h1, h2, h3, h4⟩; go_simp; rfl); exact hS0; simp only [List.setIfInBounds_toArray, List.set_cons_succ, List.set_cons_zero]
        refine reg_take 3 (v := .pointer (some ⟨g2, 0 + k * 2, none⟩)) rfl rfl (by decide +kernel) rfl (fun _ _ => exec_index_slice rfl rfl rfl Tryz.underlying30 hti hts hlt) hS0 ?_; simp only [List.setIfInBounds_toArray, List.set_cons_succ, List.set_cons_zero]
        rw [Nat.zero_add]
        (apply reg_take 4 rfl rfl (by decide +kernel) rfl); (rintro w' ⟨h1, h2, h3, h4⟩; go_simp; rfl); exact hS0; simp only [List.setIfInBounds_toArray, List.set_cons_succ, List.set_cons_zero]
        refine reg_take 5 (v := .bool false) rfl rfl (by decide +kernel) rfl (fun w' h => exec_neq_use rfl rfl rfl) hS0 ?_; simp only [List.setIfInBounds_toArray, List.set_cons_succ, List.set_cons_zero]
        refine reg_done (by decide +kernel) ?_
        have H7 := Lib.hid (And.intro H6.out.1.drew H6.out.2.right.drew)
        clear hS0 hti hz0 hts hz2 b0 b1 H6
        go_wp2
        go_roundw
        case rel => exact ⟨⟨k + 1, hlt, rfl, H7.out⟩⟩
        case measure => simp only [intOf]; omega
      · have hf : f2 k = ((f1 k).1 + dv, (f1 k).2 + ds) := by rw [HF.out.2, if_pos (eq_of_beq he)]
        have hb := HF.out.1
        rw [hf] at hb
        have hw1 : IntKind.i64.wrap ((f1 k).1 + dv) = (f1 k).1 + dv := IntWalk.i64_in _ (by simp only at hb; omega)
        have hw2 : IntKind.i64.wrap ((f1 k).2 + ds) = (f1 k).2 + ds := IntWalk.i64_in _ (by simp only at hb; omega)
        have hA2 := HBX.out W H5.out.2.right
        have d0 : W.cell? ⟨A, 0, none⟩ = some (.int .i64 dv) := cells_at hA2 0
        have d1 : W.cell? ⟨A, 1, none⟩ = some (.int .i64 ds) := cells_at hA2 1
        have z0 := thawed_at H5.out.2.block 0
        have z1 := thawed_at H5.out.2.block 1
        have h6 := (H5.out.2.setCell (i := 0) (.int .i64 ((f1 k).1 + dv))).setCell (i := 1) (.int .i64 ((f1 k).2 + ds))
        simp only [List.setIfInBounds_toArray, List.set_cons_succ, List.set_cons_zero] at h6
        have H6 := Lib.hid (And.intro ((H5.out.1.setCell ⟨m, 0, none⟩ (.int .i64 ((f1 k).1 + dv))).setCell ⟨m, 1, none⟩ (.int .i64 ((f1 k).2 + ds))) h6)
        clear h6 hb hA2 H5
        go_upto_region 9 with (fail)
        clear c0 c1 d0 d1 z0 z1 hw1 hw2
        generalize (W.setCell ⟨m, 0, none⟩ (.int .i64 ((f1 k).1 + dv))).setCell ⟨m, 1, none⟩ (.int .i64 ((f1 k).2 + ds)) = W2 at H6 ⊢
        rw [show (f1 k).1 + dv = (f2 k).1 by rw [hf], show (f1 k).2 + ds = (f2 k).2 by rw [hf]] at H6 ⊢
        obtain ⟨ti, hti, hz0, hts, hz2⟩ := info_parts info_use
        obtain ⟨b0, b1⟩ := useA_cells H6.out.2.right hlt
        have hS0 : (fun w' : World => w'.cell? ⟨m, 0, none⟩ = some (.int .i64 (f2 k).1) ∧ w'.cell? ⟨m, 1, none⟩ = some (.int .i64 (f2 k).2) ∧ w'.cell? ⟨g2, k * 2, none⟩ = some (.int .i64 (f2 k).1) ∧ w'.cell? ⟨g2, k * 2 + 1, none⟩ = some (.int .i64 (f2 k).2)) W2.drew := ⟨cells_at H6.out.2.block 0, cells_at H6.out.2.block 1, b0, b1⟩
        refine reg_begin (fun w' => w'.cell? ⟨m, 0, none⟩ = some (.int .i64 (f2 k).1) ∧ w'.cell? ⟨m, 1, none⟩ = some (.int .i64 (f2 k).2) ∧ w'.cell? ⟨g2, k * 2, none⟩ = some (.int .i64 (f2 k).1) ∧ w'.cell? ⟨g2, k * 2 + 1, none⟩ = some (.int .i64 (f2 k).2)) (by kernel_rfl) ?_
        (apply reg_take 0 rfl rfl (by decide +kernel) rfl); (rintro w' ⟨h1, h2, h3, h4⟩; go_simp; rfl); exact hS0; simp only [List.setIfInBounds_toArray, List.set_cons_succ, List.set_cons_zero]
        (apply reg_take 1 rfl rfl (by decide +kernel) rfl); (rintro w' ⟨h1, h2, h3, h4⟩; go_simp; rfl); exact hS0; simp only [List.setIfInBounds_toArray, List.set_cons_succ, List.set_cons_zero]
        (apply reg_take 2 rfl rfl (by decide +kernel) rfl); (rintro w' ⟨h1, h2, h3, h4⟩; go_simp; rfl); exact hS0; simp only [List.setIfInBounds_toArray, List.set_cons_succ, List.set_cons_zero]
        refine reg_take 3 (v := .pointer (some ⟨g2, 0 + k * 2, none⟩)) rfl rfl (by decide +kernel) rfl (fun _ _ => exec_index_slice rfl rfl rfl Tryz.underlying30 hti hts hlt) hS0 ?_; simp only [List.setIfInBounds_toArray, List.set_cons_succ, List.set_cons_zero]
        rw [Nat.zero_add]
        (apply reg_take 4 rfl rfl (by decide +kernel) rfl); (rintro w' ⟨h1, h2, h3, h4⟩; go_simp; rfl); exact hS0; simp only [List.setIfInBounds_toArray, List.set_cons_succ, List.set_cons_zero]
        refine reg_take 5 (v := .bool false) rfl rfl (by decide +kernel) rfl (fun w' h => exec_neq_use rfl rfl rfl) hS0 ?_; simp only [List.setIfInBounds_toArray, List.set_cons_succ, List.set_cons_zero]
        refine reg_done (by decide +kernel) ?_
        have H7 := Lib.hid (And.intro H6.out.1.drew H6.out.2.right.drew)
        clear hS0 hti hz0 hts hz2 b0 b1 H6
        go_wp2
        go_roundw
        case rel => exact ⟨⟨k + 1, hlt, rfl, H7.out⟩⟩
        case measure => simp only [intOf]; omega
    · obtain rfl : k = 16 := by omega
      have hltd : decide (((16 : Nat) : Int) < 16) = false := decide_eq_false (by omega)
      have hnlt : ¬ ((16 : Nat) : Int) < 16 := by omega
      go_wp2
      go_ret
      exact ⟨rfl, HB.out.1.trans ((HX.out.1.below_of (P := pts g2 (.cells (useA f2) TUse (0, 0)) * pts g1 (.cells (useA f1) TUse (0, 0))) (HX.out.2.perm (by ac_rfl))).mono (by have := HB.out.1.size; omega))⟩
end Go.Proofs.YtmgcgdkndkibgaaGreat

/- solventlaw28.sanity: the law's own example. Printed by bc.py. -/
namespace Go.Proofs.YtmgcgdkndkibgaaGreat
open Go.RowKit Go.Vol Go.Sl Go.ChangeMaps

def sanL : List VOp := [⟨1, 3, 0, 0⟩, ⟨4, 0, 5, 70⟩, ⟨4, 0, 6, 71⟩, ⟨6, 0, 0, 0⟩, ⟨8, 0, 4, 0⟩, ⟨5, 1, 6, 0⟩]
def sanU : SpaceM := runU SpaceM.new sanL
theorem sanU_wf : sanU.WF := runU_wf SpaceM.WF.new _
theorem sanU_of3 : useOf sanU 3 = (2, 2) := by decide +kernel
theorem sanU_of4 : useOf sanU 4 = (1, 0) := by decide +kernel
theorem sanU_grow : growM sanU 0 [5, 6, 7, 7] = (1, 0) := by decide +kernel
theorem sanU_snap : (contM sanU 1).1.length = 1 ∧ (contM sanU 1).2 = 0 := by decide +kernel
theorem sanU_rest : restM sanU 1 0 = (1, 0) := by decide +kernel
theorem sanU_clone : (imageM sanU 9).2 = 12 := by decide +kernel
theorem sanU_parts : tenN sanU.vols 3 = 1 ∧ tenN sanU.snaps 3 = 1 := by decide +kernel
theorem sanU_excl : exclM sanU 3 = [71] := by decide +kernel
theorem sanU_shar : sharM sanU 3 4 = [70] := by decide +kernel
def sanC : List Value := sanL.flatMap vopA
theorem san_scr (w : World) : ScrV (w.alloc (.cells sanC.toArray TOp28)) (.slice (some ⟨w.heap.size, 0, none⟩) 6 6) sanL := by
  refine ⟨_, 6, rfl, by unfold maxLen; decide, fun _ => ⟨_, 0, rfl, fun j o hj i u hu => ?_⟩⟩
  have h := flat_at (enc := vopA) (k := 4) (fun _ => rfl) sanL j o hj i u hu
  rw [Nat.zero_add, cells_at (heap_alloc_new w _)]
  simpa [sanC] using h
theorem san_build (w : World) : Calls Tryz.prog 9 #[.slice (some ⟨w.heap.size, 0, none⟩) 6 6] (w.alloc (.cells sanC.toArray TOp28)) fun e w' => ∃ (p : Nat) (va sa : Option Addr) (nv ns vc sc : Nat), e = .returned (.tuple #[.pointer (some ⟨p, 0, none⟩), .agg #[.slice va nv vc, .slice sa ns sc], .bool true]) ∧ Hid (Below w.heap.size w w' ∧ SpaceAt TNode TSp w' p sanU) := by
  refine (build_any (.slice (some ⟨w.heap.size, 0, none⟩) 6 6) sanL (w.alloc (.cells sanC.toArray TOp28)) (san_scr w) (by decide)).mono ?_
  rintro e w1 ⟨p, a, b, rfl, h1⟩
  obtain ⟨va, vc, rfl, _⟩ := h1.out.2.2.v.slice
  obtain ⟨sa, sc, rfl, _⟩ := h1.out.2.2.s.slice
  have hb := (Below.refl w.heap.size w).alloc (Nat.le_refl _) (.cells sanC.toArray TOp28)
  exact ⟨p, va, sa, _, _, vc, sc, rfl, hb.trans (h1.out.1.mono hb.size), h1.out.2.1⟩
attribute [local irreducible] sanU
theorem ints4 (w : World) (a b c d : Int) : IntsAt (w.alloc (.cells #[.int .i64 a, .int .i64 b, .int .i64 c, .int .i64 d] 3)) (.slice (some ⟨w.heap.size, 0, none⟩) 4 4) [a, b, c, d] := by
  refine ⟨_, 4, rfl, fun _ => ⟨_, 0, rfl, fun j x hj => ?_⟩⟩
  rw [Nat.zero_add, Nat.mul_one, cells_at (heap_alloc_new w _)]
  match j, hj with
  | 0, hj => simpa using hj
  | 1, hj => simpa using hj
  | 2, hj => simpa using hj
  | 3, hj => simpa using hj
theorem ints1 (w : World) (a : Int) : IntsAt (w.alloc (.cells #[.int .i64 a] 3)) (.slice (some ⟨w.heap.size, 0, none⟩) 1 1) [a] := by
  refine ⟨_, 1, rfl, fun _ => ⟨_, 0, rfl, fun j x hj => ?_⟩⟩
  rw [Nat.zero_add, Nat.mul_one, cells_at (heap_alloc_new w _)]
  match j, hj with
  | 0, hj => simpa using hj
set_option maxRecDepth 20000 in
set_option maxHeartbeats 4000000 in
theorem sanity_any (w : World) : Calls Tryz.prog 10 #[] w fun e w' => e = .returned (.bool true) ∧ Below w.heap.size w w' := by
  have HN := Lib.hid (san_build w)
  unfold sanC sanL at HN
  simp only [List.flatMap_cons, List.flatMap_nil, vopA, List.cons_append, List.nil_append, List.append_nil] at HN
  go_enter Tryz.func10, Tryz.ntmps10
  go_upto_region 4 with (go_at_call 9; refine HN.out.mono ?_; rintro e w1 ⟨p, va, sa, nv, ns, vc, sc, rfl, h1⟩)
  have hal := (Below.refl w1.heap.size w1).alloc (Nat.le_refl _) (.cells #[.slice va nv vc, .slice sa ns sc] TRS)
  have HS := Lib.hid (And.intro (h1.out.1.trans (hal.mono h1.out.1.size)) (h1.out.2.below hal))
  clear h1 hal HN
  generalize w1.alloc (.cells #[.slice va nv vc, .slice sa ns sc] TRS) = W at HS ⊢
  generalize w1.heap.size = B at ⊢
  go_upto_region 5 with (go_at_call 11; refine (of_any p sanU W HS.out.2 sanU_wf).mono ?_; rintro e w4 ⟨g4, rfl, h4⟩)
  have HS4 := Lib.hid (h4.out.1.below_of h4.out.2)
  have H4 := Lib.hid h4.out.2
  clear h4
  go_upto_region 6 with (go_at_call 12; refine (blocks_any p sanU w4 (HS.out.2.below HS4.out) sanU_wf).mono ?_; rintro e w5 ⟨v5, rfl, h5⟩)
  have H5 := Lib.hid (sat_old h5.out.2 H4.out)
  have HS5 := Lib.hid (HS4.out.trans ((h5.out.1.below_of h5.out.2).mono HS4.out.size))
  obtain ⟨g5, c5, rfl, hc5⟩ := ownAt_cells h5.out.2 (by decide)
  clear h5 H4 HS4 hc5
  have HG := Lib.hid (show ∀ W2, Below W.heap.size W W2 → Calls Tryz.prog 16 #[.pointer (some ⟨p, 0, none⟩), .int .i64 0, .slice (some ⟨W2.heap.size, 0, none⟩) 4 4] (W2.alloc (.cells #[.int .i64 5, .int .i64 6, .int .i64 7, .int .i64 7] 3)) fun e w' => e = .returned (.tuple #[.int .i64 1, .int .i64 0]) ∧ Below W2.heap.size W2 w' from fun W2 hb => by
    have hal := (Below.refl W2.heap.size W2).alloc (Nat.le_refl _) (.cells #[.int .i64 5, .int .i64 6, .int .i64 7, .int .i64 7] 3)
    have h := ugrow_any p sanU 0 [5, 6, 7, 7] _ _ ((HS.out.2.below hb).below hal) (ints4 W2 5 6 7 7) (by decide)
    rw [sanU_grow] at h
    exact h.mono fun e w' h => ⟨h.1, hal.trans (h.2.mono hal.size)⟩)
  go_upto_region 7 with (go_at_call 16; refine (HG.out w5 HS5.out).mono ?_; rintro e w6 ⟨rfl, hb6⟩)
  have HS6 := Lib.hid (HS5.out.trans (hb6.mono HS5.out.size))
  have H6 := Lib.hid (H5.out.below hb6)
  clear HG HS5 H5 hb6
  have HQ := Lib.hid (show ∀ W2, Below W.heap.size W W2 → Calls Tryz.prog 18 #[.pointer (some ⟨p, 0, none⟩), .int .i64 1] W2 fun e w' => e = .returned (.tuple #[.int .i64 1, .int .i64 0]) ∧ Below W2.heap.size W2 w' from fun W2 hb => by
    have h := usnap_any p sanU 1 W2 (HS.out.2.below hb)
    rw [sanU_snap.1, sanU_snap.2] at h
    exact h)
  go_upto_region 8 with (go_at_call 18; refine (HQ.out w6 HS6.out).mono ?_; rintro e w7 ⟨rfl, hb7⟩)
  have HS7 := Lib.hid (HS6.out.trans (hb7.mono HS6.out.size))
  have H7 := Lib.hid (H6.out.below hb7)
  clear HQ HS6 H6 hb7
  have HQ := Lib.hid (show ∀ W2, Below W.heap.size W W2 → Calls Tryz.prog 22 #[.pointer (some ⟨p, 0, none⟩), .int .i64 1, .int .i64 0] W2 fun e w' => e = .returned (.tuple #[.int .i64 1, .int .i64 0]) ∧ Below W2.heap.size W2 w' from fun W2 hb => by
    have h := urest_any p sanU 1 0 W2 (HS.out.2.below hb)
    rw [sanU_rest] at h
    exact h)
  go_upto_region 9 with (go_at_call 22; refine (HQ.out w7 HS7.out).mono ?_; rintro e w8 ⟨rfl, hb8⟩)
  have HS8 := Lib.hid (HS7.out.trans (hb8.mono HS7.out.size))
  have H8 := Lib.hid (H7.out.below hb8)
  clear HQ HS7 H7 hb8
  have HQ := Lib.hid (show ∀ W2, Below W.heap.size W W2 → Calls Tryz.prog 20 #[.pointer (some ⟨p, 0, none⟩), .int .i64 9] W2 fun e w' => ∃ n : Nat, e = .returned (.tuple #[.int .i64 (n : Int), .int .i64 12]) ∧ Below W2.heap.size W2 w' from fun W2 hb => by
    have h := uclone_any p sanU 9 W2 (HS.out.2.below hb)
    rw [sanU_clone] at h
    exact h.mono fun e w' h => ⟨_, h.1, h.2⟩)
  go_upto_region 10 with (go_at_call 20; refine (HQ.out w8 HS8.out).mono ?_; rintro e w9 ⟨n9, rfl, hb9⟩)
  have HS9 := Lib.hid (HS8.out.trans (hb9.mono HS8.out.size))
  have H9 := Lib.hid (H8.out.below hb9)
  clear HQ HS8 H8 hb9
  have HQ := Lib.hid (show ∀ W2, Below W.heap.size W W2 → Calls Tryz.prog 13 #[.pointer (some ⟨p, 0, none⟩), .int .i64 3] W2 fun e w' => e = .returned (.tuple #[.int .i64 1, .int .i64 1]) ∧ Below W2.heap.size W2 w' from fun W2 hb => by
    have h := parts_any p sanU 3 W2 (HS.out.2.below hb) sanU_wf
    rw [sanU_parts.1, sanU_parts.2] at h
    exact h)
  go_upto_region 11 with (go_at_call 13; refine (HQ.out w9 HS9.out).mono ?_; rintro e w10 ⟨rfl, hb10⟩)
  have HS10 := Lib.hid (HS9.out.trans (hb10.mono HS9.out.size))
  have H10 := Lib.hid (H9.out.below hb10)
  clear HQ HS9 H9 hb10
  obtain ⟨a0, a1⟩ := useA_cells (H10.out.perm (show _ = pts g4 (.cells (useA (useOf sanU)) TUse (0, 0)) * (ownAt 3 1 (.slice (some ⟨g5, 0, none⟩) 16 c5) 16 (blkL (useOf sanU)) * old W) from by ac_rfl)) (k := 3) (by decide)
  obtain ⟨a2, a3⟩ := useA_cells (H10.out.perm (show _ = pts g4 (.cells (useA (useOf sanU)) TUse (0, 0)) * (ownAt 3 1 (.slice (some ⟨g5, 0, none⟩) 16 c5) 16 (blkL (useOf sanU)) * old W) from by ac_rfl)) (k := 4) (by decide)
  rw [sanU_of3] at a0 a1
  rw [sanU_of4] at a2 a3
  obtain ⟨g5', c5', e5, hc5⟩ := ownAt_cells H10.out (by decide)
  cases e5
  have a4 := hc5 3 (.int .i64 4) (by
    have e : (blkL (useOf sanU))[3]? = some (blkE (useOf sanU) 3) := rfl
    rw [e]
    unfold blkE
    rw [sanU_of3]; rfl)
  clear hc5 H10
  have HE := Lib.hid (show ∀ W2, Below W.heap.size W W2 → Calls Tryz.prog 25 #[.pointer (some ⟨p, 0, none⟩), .int .i64 3] W2 fun e w' => ∃ v, e = .returned v ∧ Hid (Below W2.heap.size W2 w' ∧ IntsAt w' v [71]) from fun W2 hb => by
    have h := uexcl_any p sanU 3 W2 (HS.out.2.below hb) sanU_wf
    rw [sanU_excl] at h
    exact h)
  have HH := Lib.hid (show ∀ W2, Below W.heap.size W W2 → Calls Tryz.prog 27 #[.pointer (some ⟨p, 0, none⟩), .int .i64 3, .int .i64 4] W2 fun e w' => ∃ v, e = .returned v ∧ Hid (Below W2.heap.size W2 w' ∧ IntsAt w' v [70]) from fun W2 hb => by
    have h := ushar_any p sanU 3 4 W2 (HS.out.2.below hb) sanU_wf
    rw [sanU_shar] at h
    exact h)
  have HM := Lib.hid (show ∀ W2 v c, IntsAt W2 v [c] → Calls Tryz.prog 24 #[v, .slice (some ⟨W2.heap.size, 0, none⟩) 1 1] (W2.alloc (.cells #[.int .i64 c] 3)) fun e w' => e = .returned (.bool true) ∧ Below W2.heap.size W2 w' from fun W2 v c hv => by
    have hal := (Below.refl W2.heap.size W2).alloc (Nat.le_refl _) (.cells #[.int .i64 c] 3)
    have h := same28_any v _ [c] [c] _ (IntsAt.row hv hal) (ints1 W2 c) (by simp)
    exact h.mono fun e w' h => ⟨by rw [h.1, decide_eq_true rfl], hal.trans (h.2.mono hal.size)⟩)
  go_wp2_with (first
    | (go_at_call 25; refine (HE.out w10 HS10.out).mono ?_; rintro e w11 ⟨vE, rfl, h11⟩; have HS11 := Lib.hid (HS10.out.trans (h11.out.1.mono HS10.out.size)))
    | (go_at_call 24; with_reducible refine (HM.out w11 vE 71 h11.out.2).mono ?_; rintro e w12 ⟨rfl, hb12⟩; have HS12 := Lib.hid (HS11.out.trans (hb12.mono HS11.out.size)))
    | (go_at_call 27; refine (HH.out w12 HS12.out).mono ?_; rintro e w13 ⟨vS, rfl, h13⟩; have HS13 := Lib.hid (HS12.out.trans (h13.out.1.mono HS12.out.size)))
    | (go_at_call 24; with_reducible refine (HM.out w13 vS 70 h13.out.2).mono ?_; rintro e w14 ⟨rfl, hb14⟩; have HS14 := Lib.hid (HS13.out.trans (hb14.mono HS13.out.size))))
  go_ret
  exact ⟨rfl, HS.out.1.trans (HS14.out.mono HS.out.1.size)⟩
end Go.Proofs.YtmgcgdkndkibgaaGreat

/- What the laws of layer 28 are handed, and their first step: the two spaces, or too many operations. -/
namespace Go.Proofs.YtmgcgdkndkibgaaGreat
open Go.RowKit Go.Vol Go.Sl Go.ChangeMaps

set_option maxRecDepth 20000 in
theorem rd_vop28 {w : World} {cs : List Value} (h : Rd Tryz.prog w TOp28 cs) : ∃ o, cs = vopA o := by
  obtain ⟨hl, hf⟩ := Rd.struct Tryz.underlying72 h
  rw [show Tryz.prog.cellsOf TOp28 = 4 by kernel_rfl] at hl
  have k1 : Tryz.prog.cellsOf 3 = 1 := by kernel_rfl
  match cs, hl with
  | [a0, a1, a2, a3], _ =>
    simp only [List.mem_cons, List.not_mem_nil, or_false, forall_eq_or_imp, forall_eq, k1, List.drop_zero, List.drop_succ_cons, List.take_succ_cons, List.take_zero] at hf
    obtain ⟨h0, h1, h2, h3⟩ := hf
    obtain ⟨n0, e0, _⟩ := Rd.int Tryz.underlying3 h0
    obtain ⟨n1, e1, _⟩ := Rd.int Tryz.underlying3 h1
    obtain ⟨n2, e2, _⟩ := Rd.int Tryz.underlying3 h2
    obtain ⟨n3, e3, _⟩ := Rd.int Tryz.underlying3 h3
    refine ⟨⟨n0, n1, n2, n3⟩, ?_⟩
    simp at e0 e1 e2 e3
    subst e0 e1 e2 e3
    rfl
theorem rd_vscript28 {w : World} {cs : List Value} (h : Rd Tryz.prog w 22 cs) : ∃ v l, cs = [v] ∧ ScrV w v l := by
  obtain ⟨ao, len, cap, rfl, hm, hc⟩ := Rd.slice (sz := 4) Tryz.underlying22 (by kernel_rfl) (by decide) h
  by_cases h0 : len = 0
  · subst h0
    exact ⟨_, [], rfl, ⟨ao, cap, rfl, Nat.zero_le _, fun h => absurd rfl h⟩⟩
  · obtain ⟨b, off, rfl, hi⟩ := hc (by omega)
    obtain ⟨l, hl, hp⟩ := list_of (p := fun j (o : VOp) => ∀ i u, (vopA o)[i]? = some u → w.cell? ⟨b, off + j * 4 + i, none⟩ = some u) len (by
      intro i hlt
      obtain ⟨es, _, hr, hcell⟩ := hi i hlt
      obtain ⟨o, rfl⟩ := rd_vop28 hr
      exact ⟨o, hcell⟩)
    subst hl
    exact ⟨_, l, rfl, ⟨some ⟨b, off, none⟩, cap, rfl, hm, fun _ => ⟨b, off, rfl, hp⟩⟩⟩
theorem rd_ints {w : World} {cs : List Value} (h : Rd Tryz.prog w 32 cs) : ∃ v l, cs = [v] ∧ IntsAt w v l ∧ l.length ≤ maxLen := by
  obtain ⟨ao, len, cap, rfl, hm, hc⟩ := Rd.slice (sz := 1) Tryz.underlying32 (by kernel_rfl) (by decide) h
  by_cases h0 : len = 0
  · subst h0
    exact ⟨_, [], rfl, ⟨ao, cap, rfl, fun h => absurd rfl h⟩, Nat.zero_le _⟩
  · obtain ⟨b, off, rfl, hi⟩ := hc (by omega)
    obtain ⟨l, hl, hp⟩ := list_of (p := fun i (n : Int) => w.cell? ⟨b, off + i * 1, none⟩ = some (.int .i64 n)) len (by
      intro i hlt
      obtain ⟨es, _, hr, hcell⟩ := hi i hlt
      obtain ⟨n, rfl, _⟩ := Rd.int Tryz.underlying3 hr
      exact ⟨n, hcell 0 _ rfl⟩)
    subst hl
    exact ⟨_, l, rfl, ⟨some ⟨b, off, none⟩, cap, rfl, fun _ => ⟨b, off, rfl, hp⟩⟩, hm⟩
/-- What both spaces are, and where. -/
def Both (w W : World) (p : Nat) (va : Option Addr) (vc : Nat) (sa : Option Addr) (sc : Nat) (S : SpaceM) : Prop :=
  Below w.heap.size w W ∧ SpaceAt TNode TSp W p S ∧ RefAt (fun x => w.heap.size ≤ x) W (.slice va S.vols.length vc) (.slice sa S.snaps.length sc) S
theorem Both.next {w W W' : World} {p : Nat} {va sa : Option Addr} {vc sc : Nat} {S : SpaceM} (h : Both w W p va vc sa sc S) (hb : Below W.heap.size W W') : Both w W' p va vc sa sc S := ⟨h.1.trans (hb.mono h.1.size), h.2.1.below hb, h.2.2.below hb⟩
/-- The space and its specification, each in its place. -/
theorem build_both (sv : Value) (l : List VOp) (w : World) (hscr : ScrV w sv l) (hl : l.length ≤ 80) :
    Calls Tryz.prog 9 #[sv] w fun e w' => ∃ (p : Nat) (va : Option Addr) (vc : Nat) (sa : Option Addr) (sc : Nat), e = .returned (.tuple #[.pointer (some ⟨p, 0, none⟩), .agg #[.slice va (runU SpaceM.new l).vols.length vc, .slice sa (runU SpaceM.new l).snaps.length sc], .bool true]) ∧ Hid (Both w w' p va vc sa sc (runU SpaceM.new l)) := by
  refine (build_any sv l w hscr hl).mono ?_
  rintro e w1 ⟨p, a, b, rfl, h1⟩
  obtain ⟨va, vc, rfl, _⟩ := h1.out.2.2.v.slice
  obtain ⟨sa, sc, rfl, _⟩ := h1.out.2.2.s.slice
  exact ⟨p, va, vc, sa, sc, rfl, h1.out⟩
end Go.Proofs.YtmgcgdkndkibgaaGreat
