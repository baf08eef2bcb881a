import Derived.Test.YteikbikopgabjaaGreatDoorH09
import Derived.Laws.IdiomStrings
/- Part 10 of a proof; the last part says what is proved. -/
namespace Go.Sha
open Go Go.RowKit Go.Sl
def zD : Array Value := Array.replicate 16 (.int .u8 0)
theorem zD_arr : zD = arrK .u8 16 fun _ => 0 := rfl
def unitL (x : UInt8) : List UInt8 := List.replicate 32 x
theorem unitL_len (x : UInt8) : (unitL x).length = 32 := by simp [unitL]
end Go.Sha
namespace Go.Proofs.YteikbikopgabjaaGreatDoor
open Go.RowKit Go.Sha Go.Sl Go.GF
def digM (s : List UInt8) : Array Value := arrK .u8 16 (sumN ([3] ++ lenB s))
theorem digM_one (s : List UInt8) : ∀ v ∈ (digM s).toList, v.oneCell' = true := arrK_one _ _ _
theorem digM_size (s : List UInt8) : (digM s).size = 16 := arrK_size _ _ _
abbrev TD : TypeId := 67
theorem zeroD (w : World) : (zeroValue TD).run Tryz.prog w = .ok (.agg zD) w := by kernel_rfl
theorem infoD {c : Array Value} (h : c.size = 16) : (Tryz.prog.info? TD).map (·.size) = some c.size := by rw [h]; kernel_rfl
theorem exec_ixD {a : Act} {o : Oper} {w : World} {b i : Nat} {x y : Operand} (ho : o.op = .indexAddr TD x y) (hx : a.eval x = .pointer (some ⟨b, 0, none⟩)) (hy : a.eval y = .int .i64 (i : Int)) (hi : i < 16) :
  (execOp a.eval o).run Tryz.prog w = .ok (.value (.pointer (some ⟨b, i, none⟩))) w := by
 obtain ⟨ti, hti, hts⟩ := Option.map_eq_some_iff.1 info_u8
 have h := exec_index_array (P := Tryz.prog) (w := w) ho hx hy Tryz.underlying67 hti hts hi
 rwa [Nat.mul_one, Nat.zero_add] at h
section
variable {ops : Array Oper} {rest : List Oper} {o : Oper} {a : Act} {w : World} {Q : Exit → Act → World → Prop}
theorem wp_load_D {g : Nat} {c : Array Value} (hb : w.heap[g]? = some (.cells c TD (0, 0))) (hc : c.size = 16) (hg : o.guard = none) (x : Operand) (ho : o.op = .load TD x) (hx : a.eval x = .pointer (some ⟨g, 0, none⟩))
  (k : wpList Tryz.prog ops Q rest (a.put o.dst (.agg c)) w) : wpList Tryz.prog ops Q (o :: rest) a w :=
 wpList_load_row hg TD x ho g hx TD c (0, 0) _ hb Tryz.underlying67 rfl (infoD hc) k
end
structure L5S (w0 : World) (g4 : Nat) (l : List UInt8) (F : HProp) (iv : Value) (wr : World) : Prop where
 st : ∃ i : Nat, i ≤ 16 ∧ iv = .int .i64 (i : Int) ∧ Same w0 wr ∧ Sat wr (pts g4 (.cells (arrK .u8 16 fun j => if j < i then sumN l j else 0) TD (0, 0)) * F)
set_option maxRecDepth 100000 in
set_option maxHeartbeats 2000000 in
theorem short_any (bv : Value) (l : List UInt8) (hl : l.length = 35) (w : World) (hr : RowI w bv (b8 l)) (hK : TabK w) :
  Calls Tryz.prog 78 #[bv] w fun e w' => e = .returned (.agg (arrK .u8 16 (sumN l))) ∧ Below w.heap.size w w' := by
 have HSU := Lib.hid (fun W (h : Below w.heap.size w W) => sum_any bv l hl W (hr.below h) (hK.below h))
 have hz := fun W => zeroD W
 have HW0 := Lib.hid (And.intro ((Same.refl w).alloc (.cells zD TD)) ((Sat.old w).alloc (.cells zD TD)))
 clear hl hr hK
 go_enter Tryz.func78, Tryz.ntmps78
 go_upto_region 1 with ((with_reducible (refine wpList_alloc_zero ?_ TD ?_ _ (zeroD _) ?_)); rfl; rfl)
 generalize w.alloc (.cells zD TD) = w1 at HW0 ⊢
 have HB1 := Lib.hid (HW0.out.1.below_of HW0.out.2)
 go_upto_region 2 with (first
  | (go_at_call 104; refine (HSU.out w1 HB1.out).mono ?_; rintro e w2 ⟨rfl, h2⟩; have HA2 := Lib.hid (And.intro ((HW0.out.1.below h2).alloc (.cells zB TB)) ((HW0.out.2.below h2).alloc (.cells zB TB))); clear h2)
  | ((with_reducible (refine wpList_alloc_zero ?_ TB ?_ _ (zeroB _) ?_)); rfl; rfl; generalize w2.alloc (.cells zB TB) = w3 at HA2 ⊢; generalize w2.heap.size = g3 at HA2 ⊢)
  | (refine wpList_store_blk (T := TB) (old := zB) (new := arrK .u8 32 (sumN l)) rfl rfl rfl rfl HA2.out.2 (infoB (arrK_size _ _ _)) (by rw [arrK_size]; rfl) (arrK_one _ _ _) ?_; intro w4 h4))
 have HA4 := Lib.hid (And.intro ((HA2.out.1.trans h4.out.1).alloc (.cells zD TD)) (h4.out.2.alloc (.cells zD TD)))
 clear h4 HA2 HW0 HB1 HSU
 go_upto_region 3 with (first
  | ((with_reducible (refine wpList_alloc_zero ?_ TD ?_ _ (zeroD _) ?_)); rfl; rfl; generalize w4.alloc (.cells zD TD) = w5 at HA4 ⊢; generalize w4.heap.size = g4 at HA4 ⊢)
  | (refine wpList_store_blk (T := TD) (old := zD) (new := zD) rfl rfl rfl rfl HA4.out.2 (infoD rfl) rfl (by rw [zD_arr]; exact arrK_one _ _ _) ?_; intro w6 h6))
 have HA := Lib.hid (And.intro (HA4.out.1.trans h6.out.1) h6.out.2)
 clear h6 HA4
 generalize hF : pts g3 (.cells (arrK .u8 32 (sumN l)) TB (0, 0)) * (pts w.heap.size (.cells zD TD (0, 0)) * old w) = F at HA
 have HF := Lib.hid hF
 clear hF
 have HZ := Lib.hid (show arrK .u8 16 (fun j => if j < 0 then sumN l j else 0) = zD from by rw [zD_arr]; exact arrK_congr fun j _ => if_neg (by omega))
 go_wp2
 go_loopw [5] (fun tv wr => L5S w g4 l F tv wr) (fun tv _ => 16 - (intOf tv).toNat)
 case atStart => exact ⟨⟨0, by omega, rfl, HA.out.1, by rw [HZ.out]; exact HA.out.2⟩⟩
 case round =>
  clear HA HZ
  obtain ⟨i, hi, rfl, hsm, hst⟩ := hrel.st
  clear hrel
  have HST := Lib.hid hst
  have HSM := Lib.hid hsm
  clear hst hsm
  by_cases hil : i < 16
  ·have htd : decide ((i : Int) < 16) = true := decide_eq_true (by omega)
   have hwt : IntKind.i64.wrap ((i : Int) + 1) = (i : Int) + 1 := IntWalk.i64_in _ (by omega)
   go_upto_region 6 with (fail)
   have h3 : Sat wr (pts g3 (.cells (arrK .u8 32 (sumN l)) TB (0, 0)) * (pts g4 (.cells (arrK .u8 16 fun j => if j < i then sumN l j else 0) TD (0, 0)) * (pts w.heap.size (.cells zD TD (0, 0)) * old w))) := by
    have h := HST.out
    rw [← HF.out] at h
    exact h.perm (by ac_rfl)
   have HC3 : wr.cell? ⟨g3, i, none⟩ = some (.int .u8 ((sumN l i : Nat) : Int)) := by rw [cells_at h3.block]; exact arrK_at .u8 32 _ (by omega)
   clear h3
   refine wp_region_lit ?_
   (apply wpList_run rfl); (go_simp; first | rfl | exact ⟨rfl, rfl⟩); simp only [Act.put, zq1, zq2, zq3]
   (apply wpList_run rfl); (go_simp; first | rfl | exact ⟨rfl, rfl⟩); simp only [Act.put, zq1, zq2, zq3]
   refine wpList_run (v := .pointer (some ⟨g3, i, none⟩)) rfl (exec_ixB rfl rfl rfl (by omega)) ?_; simp only [Act.put, zq1, zq2, zq3]
   refine wpList_run (v := .int .u8 ((sumN l i : Nat) : Int)) rfl (exec_load_cell rfl rfl Tryz.underlying5 rfl HC3) ?_; simp only [Act.put, zq1, zq2, zq3]
   refine wpList_run (v := .pointer (some ⟨g4, i, none⟩)) rfl (exec_ixD rfl rfl rfl (by omega)) ?_; simp only [Act.put, zq1, zq2, zq3]
   refine wpList_do rfl (exec_stB rfl rfl rfl (by rw [cells_at HST.out.block]; exact arrK_at .u8 16 _ hil) (thawed_at HST.out.block _)) ?_
   have h9 := HST.out.setCell (i := i) (.int .u8 ((sumN l i : Nat) : Int))
   rw [arrK_set] at h9
   rw [show (fun j => if j = i then sumN l i else if j < i then sumN l j else 0) = fun j => if j < i + 1 then sumN l j else 0 from funext fun j => by
    by_cases e : j = i
    ·subst e; rw [if_pos rfl, if_pos (by omega)]
    ·rw [if_neg e]
     by_cases e2 : j < i
     ·rw [if_pos e2, if_pos (by omega)]
     ·rw [if_neg e2, if_neg (by omega)]] at h9
   have HS9 := Lib.hid (And.intro (HSM.out.setCell ⟨g4, i, none⟩ (.int .u8 ((sumN l i : Nat) : Int))) h9)
   clear h9 HC3
   generalize wr.setCell ⟨g4, i, none⟩ (.int .u8 ((sumN l i : Nat) : Int)) = w9 at HS9 ⊢
   refine wpList_nil ?_
   go_wp2
   go_roundw
   case rel => exact ⟨⟨i + 1, by omega, rfl, HS9.out⟩⟩
   case measure => show 16 - ((i : Int) + 1).toNat < 16 - (i : Int).toNat; omega
  ·have hte : i = 16 := by omega
   have htd : decide ((i : Int) < 16) = false := decide_eq_false (by omega)
   subst hte
   have HB := Lib.hid (show Sat wr (pts w.heap.size (.cells zD TD (0, 0)) * (pts g4 (.cells (arrK .u8 16 (sumN l)) TD (0, 0)) * (pts g3 (.cells (arrK .u8 32 (sumN l)) TB (0, 0)) * old w))) from by
    have h := HST.out
    rw [← HF.out, show (arrK .u8 16 fun j => if j < 16 then sumN l j else 0) = arrK .u8 16 (sumN l) from arrK_congr fun j hj => if_pos hj] at h
    exact h.perm (by ac_rfl))
   have hblk : wr.heap[g4]? = some (.cells (arrK .u8 16 (sumN l)) TD (0, 0)) := (HB.out.perm (show _ = pts g4 (.cells (arrK .u8 16 (sumN l)) TD (0, 0)) * (pts w.heap.size (.cells zD TD (0, 0)) * (pts g3 (.cells (arrK .u8 32 (sumN l)) TB (0, 0)) * old w)) by ac_rfl)).block
   clear HST
   go_wp2_with (first
    | ((with_reducible (apply wp_load_D hblk (arrK_size _ _ _))); rfl; rfl; rfl)
    | (refine wpList_store_blk (T := TD) (old := zD) (new := arrK .u8 16 (sumN l)) rfl rfl rfl rfl HB.out (infoD (arrK_size _ _ _)) (by rw [arrK_size]; rfl) (arrK_one _ _ _) ?_; intro w9 h9))
   have hblk2 := h9.out.2.block
   refine bodyPost_ret (v := .agg (arrK .u8 16 (sumN l))) ?_ rfl ⟨rfl, (HSM.out.trans h9.out.1).below_of (h9.out.2.perm (show _ = (pts w.heap.size (.cells (arrK .u8 16 (sumN l)) TD (0, 0)) * (pts g4 (.cells (arrK .u8 16 (sumN l)) TD (0, 0)) * pts g3 (.cells (arrK .u8 32 (sumN l)) TB (0, 0)))) * old w by ac_rfl))⟩
   exact results_cell_row Tryz.results78 _ _ w.heap.size TD (arrK .u8 16 (sumN l)) (0, 0) _ rfl hblk2 Tryz.underlying67 rfl (infoD (arrK_size _ _ _))
set_option maxRecDepth 100000 in
set_option maxHeartbeats 2000000 in
theorem of32_any (s : List UInt8) (hs : s.length = 32) (b off cap : Nat) (w : World) (hb : w.cell? ⟨b, off, none⟩ = some (.string (strL s))) (hK : TabK w) :
  Calls Tryz.prog 53 #[.int .i64 3, .slice (some ⟨b, off, none⟩) 1 cap] w fun e w' => e = .returned (.agg (digM s)) ∧ Below w.heap.size w w' := by
 have HIN := Lib.hid (fun W (h : Below w.heap.size w W) => r2input_any s hs b off cap W ((h.cell (p := ⟨b, off, none⟩) (World.block_lt_of_cell? _ _ hb)).trans hb))
 have HSH := Lib.hid (fun W v (h : Below w.heap.size w W) (hr : RowI W v (b8 ([3] ++ lenB s))) => short_any v ([3] ++ lenB s) (by simp [lenB, hs]) W hr (hK.below h))
 have HW0 := Lib.hid (And.intro ((Same.refl w).alloc (.cells zD TD)) ((Sat.old w).alloc (.cells zD TD)))
 clear hs hb hK
 obtain ⟨m, hm⟩ : ∃ m, [3] ++ lenB s = m := ⟨_, rfl⟩
 have HD : digM s = arrK .u8 16 (sumN m) := by rw [← hm]; rfl
 rw [hm] at HIN HSH
 rw [HD]
 clear HD hm
 go_enter Tryz.func53, Tryz.ntmps53
 go_upto_region 1 with ((with_reducible (refine wpList_alloc_zero ?_ TD ?_ _ (zeroD _) ?_)); rfl; rfl)
 generalize w.alloc (.cells zD TD) = w1 at HW0 ⊢
 have HB1 := Lib.hid (HW0.out.1.below_of HW0.out.2)
 go_wp2_with (first
  | (go_at_call 79; refine (HIN.out w1 HB1.out).mono ?_; rintro e w2 ⟨v2, rfl, h2, h3⟩; have HR := Lib.hid (own8_row h3); have HS2 := Lib.hid (And.intro (HW0.out.1.trans h2) ((h3.of_all HW0.out.2).right)); clear h2 h3)
  | (go_at_call 78; refine (HSH.out w2 v2 (HS2.out.1.below_of HS2.out.2) HR.out).mono ?_; rintro e w3 ⟨rfl, h4⟩; have HS3 := Lib.hid (And.intro (HS2.out.1.below h4) (HS2.out.2.below h4)); clear h4)
  | (refine wpList_store_blk (T := TD) (old := zD) (new := arrK .u8 16 (sumN m)) rfl rfl rfl rfl HS3.out.2 (infoD (arrK_size _ _ _)) (by rw [arrK_size]; rfl) (arrK_one _ _ _) ?_; intro w9 h9))
 have hblk2 := h9.out.2.block
 refine bodyPost_ret (v := .agg (arrK .u8 16 (sumN m))) ?_ rfl ⟨rfl, (HS3.out.1.trans h9.out.1).below_of h9.out.2⟩
 exact results_cell_row Tryz.results53 _ _ w.heap.size TD (arrK .u8 16 (sumN m)) (0, 0) _ rfl hblk2 Tryz.underlying67 rfl (infoD (arrK_size _ _ _))
set_option maxRecDepth 100000 in
set_option maxHeartbeats 2000000 in
theorem digest_any (s : List UInt8) (hs : s.length = 32) (w : World) (hK : TabK w) :
  Calls Tryz.prog 27 #[.string (strL s)] w fun e w' => e = .returned (.agg (digM s)) ∧ Below w.heap.size w w' := by
 have HOF := Lib.hid (fun W b (h : Below w.heap.size w W) (hb : W.cell? ⟨b, 0, none⟩ = some (.string (strL s))) => of32_any s hs b 0 1 W hb (hK.below h))
 have HW0 := Lib.hid (And.intro ((Same.refl w).alloc (.cells zD TD)) ((Sat.old w).alloc (.cells zD TD)))
 clear hs hK
 go_enter Tryz.func27, Tryz.ntmps27
 go_upto_region 1 with ((with_reducible (refine wpList_alloc_zero ?_ TD ?_ _ (zeroD _) ?_)); rfl; rfl)
 generalize w.alloc (.cells zD TD) = w1 at HW0 ⊢
 have HA1 := Lib.hid (fun t => And.intro (HW0.out.1.alloc (.cells #[.string (strL s)] t)) (HW0.out.2.alloc (.cells #[.string (strL s)] t)))
 go_wp2_with (first
  | (go_at_call 53; refine (HOF.out _ w1.heap.size (((HA1.out _).1.below_of ((HA1.out _).2.perm (show _ = (pts w1.heap.size (.cells #[.string (strL s)] 9 (0, 0)) * pts w.heap.size (.cells zD TD (0, 0))) * old w by ac_rfl)))) (by rw [cells_at (HA1.out _).2.block]; rfl)).mono ?_; rintro e w3 ⟨rfl, h4⟩; have HS3 := Lib.hid (And.intro ((HA1.out _).1.below h4) ((HA1.out _).2.below h4)); clear h4)
  | (refine wpList_store_blk (T := TD) (old := zD) (new := digM s) rfl rfl rfl rfl (HS3.out.2.perm (show _ = pts w.heap.size (.cells zD TD (0, 0)) * (pts w1.heap.size (.cells #[.string (strL s)] 9 (0, 0)) * old w) by ac_rfl)) (infoD (digM_size _)) (by rw [digM_size]; rfl) (digM_one _) ?_; intro w9 h9))
 have hblk2 := h9.out.2.block
 refine bodyPost_ret (v := .agg (digM s)) ?_ rfl ⟨rfl, (HS3.out.1.trans h9.out.1).below_of (h9.out.2.perm (show _ = (pts w.heap.size (.cells (digM s) TD (0, 0)) * pts w1.heap.size (.cells #[.string (strL s)] 9 (0, 0))) * old w by ac_rfl))⟩
 exact results_cell_row Tryz.results27 _ _ w.heap.size TD (digM s) (0, 0) _ rfl hblk2 Tryz.underlying67 rfl (infoD (digM_size _))
def itemA (x : UInt8) (l : Bool) : Array Value := #[.int .u8 (x.toNat : Int), .bool l]
abbrev TI41 : TypeId := 60
structure UnS (w : World) (x : UInt8) (l : Bool) (B g : Nat) (i : Value) (wr : World) : Prop where
 st : ∃ (k : Nat) (cur : Array Value), k ≤ 32 ∧ i = .int .i64 k ∧ Same w wr ∧ cur.size = 32 ∧ (∀ j, j < k → cur[j]? = some (.int .u8 (x.toNat : Int))) ∧ Sat wr (pts B (.cells (itemA x l) TI41 (0, 0)) * (pts g (.cells cur T8 (0, 0)) * old w))
set_option maxRecDepth 20000 in
set_option maxHeartbeats 2000000 in
theorem unit_any (x : UInt8) (l : Bool) (w : World) :
  Calls Tryz.prog 29 #[.agg (itemA x l)] w fun e w' => e = .returned (.string (strL (unitL x))) ∧ Below w.heap.size w w' := by
 obtain ⟨i0, hi, hz0, hz1, hz2⟩ := info_parts (show (Tryz.prog.info? T8).map (fun i => (i.zero, i.size, i.bytes)) = some (some (.int .u8 0), 1, 1) from by kernel_rfl)
 have hk6 : Tryz.prog.cellsOf TI41 = 2 := by kernel_rfl
 go_enter Tryz.func29, Tryz.ntmps29
 go_upto_region 1 with (fail)
 have hs0 := (Sat.old w).alloc (.cells (itemA x l) TI41)
 have hsm0 := (Same.refl w).alloc (.cells (itemA x l) TI41)
 generalize w.alloc (.cells (itemA x l) TI41) = w1 at hs0 hsm0 ⊢
 generalize w.heap.size = B at hs0 ⊢
 have H0 := Lib.hid (And.intro hsm0 hs0)
 clear hs0 hsm0
 go_wp2_with (at_make; refine wpList_make_full _ rfl _ _ 131 rfl w1.heap.size T8 i0 (.int .u8 0) 1 Tryz.underlying131 hi hz0 hz1 .i64 .i64 _ _ 32 rfl rfl ?_ ?_ ?_ ?_ ?_ ?_)
 all_goals first | rfl | omega | (rw [hz2]; omega) | (unfold maxLen; omega) | exact Nat.zero_le _ | exact Nat.le_refl _ | skip
 intro w2 hown hg
 have hs2 := Sat.ownRow H0.out.2 (fun k hk => hg.block k hk (by simp)) (Nat.le_refl _) hown
 have hsm2 : Same w w2 := H0.out.1.trans ⟨hg.os, hg.tape, hg.output, hg.size⟩
 rcases ownAt_iff.1 hs2 with ⟨h, _⟩ | ⟨g, cap, cur, ⟨hv, _, _, hcs, _, _⟩, hs3⟩
 ·simp at h
 injection hv with hv1 hv2 hv3
 obtain rfl : w1.heap.size = g := by simpa using hv1
 subst hv3
 have HST := Lib.hid (show UnS w x l B w1.heap.size (.int .i64 0) w2 from ⟨⟨0, cur, Nat.zero_le _, rfl, hsm2, by rw [hcs], by intro j hj; omega, hs3.perm (by ac_rfl)⟩⟩)
 clear hs3 hs2 hsm2 hown hg hcs
 generalize w1.heap.size = g at HST ⊢
 go_wp2
 go_loopw [4] (fun i wr => UnS w x l B g i wr) (fun i _ => 32 - (intOf i).toNat)
 case atStart => exact HST.out
 case round =>
  obtain ⟨k, cur, hk, rfl, hsm, hcz, hcells, hs⟩ := hrel.st
  clear hrel
  have c3 : wr.cell? ⟨B, 0, none⟩ = some (.int .u8 (x.toNat : Int)) := by rw [cells_at hs.block]; rfl
  have HS := Lib.hid (And.intro hsm hs)
  have HC := Lib.hid hcells
  clear hsm hcells
  by_cases hlt : k < 32
  ·have hltd : decide ((k : Int) < 32) = true := decide_eq_true (by omega)
   have hki : (k : Int) ≤ 100 := by omega
   have hk0 : (0 : Int) ≤ (k : Int) := by omega
   have hkn : (k : Int) < 32 := by omega
   obtain ⟨u, hu⟩ : ∃ u, cur[k]? = some u := ⟨_, Array.getElem?_eq_getElem (by omega)⟩
   have ck : wr.cell? ⟨g, k, none⟩ = some u := by rw [cells_at hs.right.block]; exact hu
   have fk : wr.frozen? ⟨g, k, none⟩ = false := thawed_at hs.right.block _
   clear hs
   go_wp2
   refine ⟨⟨k + 1, cur.setIfInBounds k (.int .u8 (x.toNat : Int)), by omega, rfl, HS.out.1.setCell _ _, by rw [Array.size_setIfInBounds, hcz], ?_, ?_⟩, by simp only [intOf]; omega⟩
   ·intro j hj
    rw [Array.getElem?_setIfInBounds]
    split
    ·rename_i hkj; subst hkj; rw [if_pos (by omega)]
    ·exact HC.out j (by omega)
   ·exact ((HS.out.2.perm (show _ = pts g (.cells cur T8 (0, 0)) * (pts B (.cells (itemA x l) TI41 (0, 0)) * old w) from by ac_rfl)).setCell (i := k) (.int .u8 (x.toNat : Int))).perm (by ac_rfl)
  ·obtain rfl : k = 32 := by omega
   have hltd : decide (((32 : Nat) : Int) < 32) = false := by decide
   have hcv : (convert 131 9 (.slice (some ⟨g, 0, none⟩) 32 32)).run Tryz.prog wr = .ok (.string (strL (unitL x))) wr := by
    have := run_convert_bytes_back (P := Tryz.prog) wr 131 9 5 ⟨g, 0, none⟩ 32 (unitL x) Tryz.underlying131 Tryz.underlying5 Tryz.underlying9 (by
     intro j hj
     have hj2 : j < 32 := by rw [unitL_len] at hj; exact hj
     have e : (unitL x)[j] = x := by simp only [unitL, List.getElem_replicate]
     rw [Addr.add_mid, cells_at hs.right.block, Nat.zero_add, HC.out j (by omega)]
     exact congrArg (fun b : UInt8 => some (Value.int .u8 (b.toNat : Int))) e.symm)
    rw [unitL_len] at this; exact this
   clear hs
   go_wp2_with ((with_reducible (refine wpList_run ?_ (exec_convert ?_ ?_ hcv) ?_)); rfl; rfl; rfl)
   go_ret
   exact ⟨rfl, HS.out.1.below_of (HS.out.2.perm (show _ = pts B (.cells (itemA x l) TI41 (0, 0)) * pts g (.cells cur T8 (0, 0)) * old w from by ac_rfl))⟩
end Go.Proofs.YteikbikopgabjaaGreatDoor
