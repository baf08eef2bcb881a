import Derived.Test.YteikbikopgabjaaGreatDoorH11
import Derived.Test.YteikbikopgabjaaGreatDoorH01
import Derived.Test.YteikbikopgabjaaGreatDoorH02
/- Part 12 of a proof; the last part says what is proved. -/
namespace Go.Proofs.YteikbikopgabjaaGreatDoor
open Go.RowKit Go.Vol Go.Sl
def nodeV (h : Nat) (kids ch : List Value) : Value := .agg (nodeC h kids ch)
theorem zero_node (w : World) : (zeroValue TNode).run Tryz.prog w = .ok (.agg (nodeC 0 nils zers)) w := by kernel_rfl
theorem info_node : (Tryz.prog.info? TNode).map (·.size) = some 33 := by kernel_rfl
theorem build_node (w : World) : (Instr.build TNode #[]).run Tryz.prog w = .ok (nodeV 0 nils zers) w := by kernel_rfl
def OneC (l : List Value) : Prop := l.length = 16 ∧ ∀ v ∈ l, v.oneCell' = true
theorem OneC.nils : OneC nils := ⟨rfl, by intro v hv; unfold Go.Vol.nils at hv; rw [List.eq_of_mem_replicate hv]; rfl⟩
theorem OneC.zers : OneC zers := ⟨rfl, by intro v hv; unfold Go.Vol.zers at hv; rw [List.eq_of_mem_replicate hv]; rfl⟩
theorem OneC.chs (m : MapM) : OneC (chs m) := ⟨chs_len m, by intro v hv; unfold Go.Vol.chs at hv; obtain ⟨i, _, rfl⟩ := List.mem_map.1 hv; rfl⟩
theorem nodeC_one {h : Nat} {kids ch : List Value} (hk : OneC kids) (hc : OneC ch) : ∀ v ∈ (nodeC h kids ch).toList, v.oneCell' = true := by
 intro v hv
 unfold nodeC at hv
 simp only [List.mem_cons, List.mem_append] at hv
 rcases hv with rfl | hv | hv
 ·rfl
 ·exact hk.2 v hv
 ·exact hc.2 v hv
section
variable {ops : Array Oper} {rest : List Oper} {o : Oper} {a : Act} {w : World} {Q : Exit → Act → World → Prop}
theorem wp_build_node (hg : o.guard = none) (ho : o.op = .build TNode #[]) (k : wpList Tryz.prog ops Q rest (a.put o.dst (nodeV 0 nils zers)) w) : wpList Tryz.prog ops Q (o :: rest) a w := by
 refine wpList_run hg (v := nodeV 0 nils zers) (w' := w) ?_ k
 have h := build_node w
 unfold execOp
 simp only [ho]
 simp [h]
theorem wp_store_node {h h' : Nat} {kids ch kids' ch' : List Value} (hk : OneC kids) (hc : OneC ch) (hk' : OneC kids') (hc' : OneC ch') (hg : o.guard = none) (x y : Operand) (ho : o.op = .store TNode x y)
  (hx : a.eval x = .pointer (some ⟨w.heap.size, 0, none⟩)) (hy : a.eval y = nodeV h' kids' ch') (k : wpList Tryz.prog ops Q rest (a.put o.dst undef) (w.alloc (.cells (nodeC h' kids' ch') TNode))) :
  wpList Tryz.prog ops Q (o :: rest) a (w.alloc (.cells (nodeC h kids ch) TNode)) :=
 wpList_store_fresh hg TNode x y ho TNode _ _ hx hy (by rw [info_node, nodeC_size _ _ _ hk'.1 hc'.1]) (by rw [nodeC_size _ _ _ hk'.1 hc'.1, nodeC_size _ _ _ hk.1 hc.1]) (nodeC_one hk' hc') k
theorem wp_load_node {h g : Nat} {kids ch : List Value} (hk : OneC kids) (hc : OneC ch) (hb : w.heap[g]? = some (.cells (nodeC h kids ch) TNode (0, 0))) (hg : o.guard = none) (x : Operand) (ho : o.op = .load TNode x)
  (hx : a.eval x = .pointer (some ⟨g, 0, none⟩)) (k : wpList Tryz.prog ops Q rest (a.put o.dst (nodeV h kids ch)) w) : wpList Tryz.prog ops Q (o :: rest) a w :=
 wpList_load_row hg TNode x ho g hx TNode _ (0, 0) _ hb Tryz.underlying212 rfl (by rw [info_node, nodeC_size _ _ _ hk.1 hc.1]) k
end
theorem heap_alloc_old {w : World} {g : Nat} {o : Obj} (h : w.heap[g]? = some o) (q : Obj) : (w.alloc q).heap[g]? = some o := by rw [Below.heap_alloc w q g (Array.getElem?_eq_some_iff.1 h).1]; exact h
theorem NodeOk.one {ok : Nat → Prop} {w : World} {L : Nat} {kids : List Value} {m : MapM} (hl : kids.length = 16) (h : ∀ j k, kids[j]? = some k → NodeOk TNode ok w L k (sub m L j)) : OneC kids := by
 refine ⟨hl, fun v hv => ?_⟩
 obtain ⟨j, hj⟩ := List.mem_iff_getElem?.1 hv
 obtain ⟨q, rfl⟩ := NodeOk.ptr (h j v hj)
 rfl
theorem run_shl_u16 (t : TypeId) (r : Nat) (hr : r < 16) (w : World) : (binOp .shl t (.int .u16 1) (.int .i64 (r : Int))).run Tryz.prog w = .ok (.int .u16 ((1 <<< r : Nat) : Int)) w := by
 match r, hr with
 | 0, _ => rfl
 | 1, _ => rfl
 | 2, _ => rfl
 | 3, _ => rfl
 | 4, _ => rfl
 | 5, _ => rfl
 | 6, _ => rfl
 | 7, _ => rfl
 | 8, _ => rfl
 | 9, _ => rfl
 | 10, _ => rfl
 | 11, _ => rfl
 | 12, _ => rfl
 | 13, _ => rfl
 | 14, _ => rfl
 | 15, _ => rfl
 | n + 16, h => exact absurd h (by omega)
theorem run_or_u16 (t : TypeId) (x r : Nat) (hx : x < 65536) (hr : r < 16) (w : World) : (binOp .or t (.int .u16 (x : Int)) (.int .u16 ((1 <<< r : Nat) : Int))).run Tryz.prog w = .ok (.int .u16 ((x ||| (1 <<< r) : Nat) : Int)) w := by
 have e : (binOp .or t (.int .u16 (x : Int)) (.int .u16 ((1 <<< r : Nat) : Int))).run Tryz.prog w = .ok (.int .u16 (bits .or .u16 (x : Int) ((1 <<< r : Nat) : Int))) w := rfl
 rw [e, or_shl x r hx hr]
theorem nils_len : nils.length = 16 := rfl
theorem info_u16 : (Tryz.prog.info? 209).map (·.size) = some 1 := by kernel_rfl
theorem leaf_zero {m : MapM} (h : anyB 16 m = false) : nodeC 0 nils zers = nodeC (has0 m) nils (chs m) := by
 rw [has0_zero.2 h]
 congr 1
 unfold zers chs
 symm
 rw [List.eq_replicate_iff]
 refine ⟨by simp, fun x hx => ?_⟩
 obtain ⟨i, hi, rfl⟩ := List.mem_map.1 hx
 rw [anyB_false.1 h i (by simpa using hi)]; rfl
theorem bmod_div (b L : Nat) : b % 16 ^ (L + 2) / 16 ^ (L + 1) = slotN (L + 1) b := by
 rw [mod_split]
 unfold slotN
 rw [Nat.mul_comm, Nat.mul_add_div (pow16_pos _), Nat.div_eq_of_lt (Nat.mod_lt _ (pow16_pos _)), Nat.add_zero]
theorem bmod_mod (b L : Nat) : b % 16 ^ (L + 2) % 16 ^ (L + 1) = b % 16 ^ (L + 1) := Nat.mod_mod_of_dvd _ (Nat.pow_dvd_pow 16 (by omega))
set_option maxHeartbeats 2000000 in
theorem set0_any (ok : Nat → Prop) (v : Value) (m : MapM) (b : Nat) (c : Int) (hb : b < 4096) (w : World) (hn : NodeOk TNode ok w 0 v m) (hok : ∀ k, w.heap.size ≤ k → ok k) :
  Calls Tryz.prog 108 #[v, .int .i64 0, .int .i64 (b : Int), .int .i64 c] w fun e w' => ∃ v', e = .returned v' ∧ Hid (Below w.heap.size w w' ∧ NodeOk TNode ok w' 0 v' (upd m (b % 16) (some c))) := by
 have hsl := fun w' => slot_any 0 b (by omega) hb w'
 have hs16 := slotN_lt 0 b
 have hsb : slotN 0 b = b % 16 := by unfold slotN; simp
 have hlt := has0_lt m
 have HSL := Lib.hid hsl
 have HSB := Lib.hid hsb
 have HOK := Lib.hid (hok w.heap.size (Nat.le_refl _))
 clear hsl hsb hok
 have hcm := OneC.chs m
 obtain ⟨q, rfl⟩ := NodeOk.ptr hn
 have H1 := Lib.hid (And.intro ((Same.refl w).alloc (.cells (nodeC (has0 m) nils (chs m)) TNode)) ((Sat.old w).alloc (.cells (nodeC (has0 m) nils (chs m)) TNode)))
 cases q with
 | none =>
  have HZ := Lib.hid (leaf_zero (NodeOk.nil hn))
  clear hn
  go_enter Tryz.func108, Tryz.ntmps108
  go_upto_region 4 with (first
   | ((with_reducible (refine wpList_alloc_zero ?_ TNode ?_ _ (zero_node _) ?_)); rfl; rfl)
   | ((with_reducible (refine wp_build_node ?_ ?_ ?_)); rfl; rfl)
   | ((with_reducible (refine wp_store_node (h := 0) (h' := 0) OneC.nils OneC.zers OneC.nils OneC.zers ?_ (.tmp 9) (.tmp 11) ?_ ?_ ?_ ?_)); rfl; rfl; rfl; rfl)
   )
  rw [HZ.out]
  generalize w.alloc (.cells (nodeC (has0 m) nils (chs m)) TNode) = W1 at H1 ⊢
  generalize w.heap.size = B at H1 HOK ⊢
  go_upto_region 5 with (go_at_call 136; refine (HSL.out _).mono ?_; rintro e w' ⟨rfl, rfl⟩)
  have HU := Lib.hid (And.intro (has0_set m c hs16) (chs_set m (some c) hs16))
  generalize slotN 0 b = sl at *
  have hS0 : W1.drew.cell? ⟨B, 0, none⟩ = some (.int .u16 (has0 m : Int)) := cells_at H1.out.2.block 0
  refine reg_begin (fun w' => w'.cell? ⟨B, 0, none⟩ = some (.int .u16 (has0 m : Int))) (by kernel_rfl) ?_
  (apply reg_take 0 rfl rfl (by decide +kernel) rfl); (intro w' h1; go_simp; rfl); exact hS0; simp only [zq1, zq2, zq3]
  (apply reg_take 1 rfl rfl (by decide +kernel) rfl); (intro w' h1; go_simp; rfl); exact hS0; simp only [zq1, zq2, zq3]
  (apply reg_take 2 rfl rfl (by decide +kernel) rfl); (intro w' h1; go_simp; rfl); exact hS0; simp only [zq1, zq2, zq3]
  refine reg_take 3 (v := .int .u16 ((1 <<< sl : Nat) : Int)) rfl rfl (by decide +kernel) rfl (fun w' _ => exec_binop rfl rfl rfl rfl (run_shl_u16 _ _ hs16 w')) hS0 ?_; simp only [zq1, zq2, zq3]
  refine reg_take 4 (v := .int .u16 ((has0 m ||| (1 <<< sl) : Nat) : Int)) rfl rfl (by decide +kernel) rfl (fun w' _ => exec_binop rfl rfl rfl rfl (run_or_u16 _ _ _ hlt hs16 w')) hS0 ?_; simp only [zq1, zq2, zq3]
  (apply reg_take 5 rfl rfl (by decide +kernel) rfl); (intro w' h1; go_simp; rfl); exact hS0; simp only [zq1, zq2, zq3]
  obtain ⟨ip, hip, hip2⟩ := Option.map_eq_some_iff.1 info_u16
  refine reg_do_last 6 (W1.drew.setCell ⟨B, 0, none⟩ (.int .u16 ((has0 m ||| (1 <<< sl) : Nat) : Int))) rfl rfl (by decide +kernel) rfl (exec_store_cell rfl rfl rfl hip hip2 rfl hS0 (thawed_at H1.out.2.drew.block 0)) ?_
  replace H1 := Lib.hid (And.intro ((H1.out.1.drew).setCell ⟨B, 0, none⟩ (.int .u16 ((has0 m ||| (1 <<< sl) : Nat) : Int))) (H1.out.2.drew.setCell (i := 0) (.int .u16 ((has0 m ||| (1 <<< sl) : Nat) : Int))))
  rw [nodeC_set0] at H1
  clear hip hip2 ip hS0
  generalize W1.drew.setCell ⟨B, 0, none⟩ (.int .u16 ((has0 m ||| (1 <<< sl) : Nat) : Int)) = W2 at H1 ⊢
  obtain ⟨k0, _, k2⟩ := nodeC_at H1.out.2.block nils_len
  have k17 := k2 sl _ (chs_at m hs16)
  have hfz := thawed_at H1.out.2.block (17 + sl)
  clear k0 k2
  go_wp2
  go_ret
  have h9 := H1.out.2.setCell (i := 17 + sl) (.int .i64 c)
  have h8 := H1.out.1.setCell ⟨B, 17 + sl, none⟩ (.int .i64 c)
  rw [nodeC_setCh _ _ _ _ _ nils_len, show (Value.int .i64 c) = .int .i64 ((some c).getD 0) from rfl, HU.out.2, ← HU.out.1] at h9
  refine ⟨_, rfl, h8.below_of h9, .inr ⟨B, rfl, anyB_upd_some (by rw [← HSB.out]; exact hs16), ?_, HOK.out⟩⟩
  rw [← HSB.out]
  exact h9.block
 | some ad =>
  obtain ⟨b0, rfl, _, _, _⟩ := NodeOk.block hn
  obtain ⟨hh, _, _⟩ := NodeOk.leaf hn
  clear hn
  go_enter Tryz.func108, Tryz.ntmps108
  go_upto_region 4 with (first
   | ((with_reducible (refine wpList_alloc_zero ?_ TNode ?_ _ (zero_node _) ?_)); rfl; rfl)
   | ((with_reducible (refine wp_build_node ?_ ?_ ?_)); rfl; rfl)
   | ((with_reducible (refine wp_load_node OneC.nils hcm (heap_alloc_old hh _) ?_ (.tmp 15) ?_ ?_ ?_)); rfl; rfl; rfl)
   | ((with_reducible (refine wp_store_node (h := 0) (h' := 0) OneC.nils OneC.zers OneC.nils OneC.zers ?_ (.tmp 9) (.tmp 11) ?_ ?_ ?_ ?_)); rfl; rfl; rfl; rfl)
   | ((with_reducible (refine wp_store_node (h := 0) (h' := has0 m) OneC.nils OneC.zers OneC.nils hcm ?_ (.tmp 9) (.tmp 16) ?_ ?_ ?_ ?_)); rfl; rfl; rfl; rfl)
   )
  clear hh
  simp only [Act.put, zq1, zq2, zq3]
  generalize w.alloc (.cells (nodeC (has0 m) nils (chs m)) TNode) = W1 at H1 ⊢
  generalize w.heap.size = B at H1 HOK ⊢
  go_upto_region 5 with (go_at_call 136; refine (HSL.out _).mono ?_; rintro e w' ⟨rfl, rfl⟩)
  have HU := Lib.hid (And.intro (has0_set m c hs16) (chs_set m (some c) hs16))
  generalize slotN 0 b = sl at *
  have hS0 : W1.drew.cell? ⟨B, 0, none⟩ = some (.int .u16 (has0 m : Int)) := cells_at H1.out.2.block 0
  refine reg_begin (fun w' => w'.cell? ⟨B, 0, none⟩ = some (.int .u16 (has0 m : Int))) (by kernel_rfl) ?_
  (apply reg_take 0 rfl rfl (by decide +kernel) rfl); (intro w' h1; go_simp; rfl); exact hS0; simp only [zq1, zq2, zq3]
  (apply reg_take 1 rfl rfl (by decide +kernel) rfl); (intro w' h1; go_simp; rfl); exact hS0; simp only [zq1, zq2, zq3]
  (apply reg_take 2 rfl rfl (by decide +kernel) rfl); (intro w' h1; go_simp; rfl); exact hS0; simp only [zq1, zq2, zq3]
  refine reg_take 3 (v := .int .u16 ((1 <<< sl : Nat) : Int)) rfl rfl (by decide +kernel) rfl (fun w' _ => exec_binop rfl rfl rfl rfl (run_shl_u16 _ _ hs16 w')) hS0 ?_; simp only [zq1, zq2, zq3]
  refine reg_take 4 (v := .int .u16 ((has0 m ||| (1 <<< sl) : Nat) : Int)) rfl rfl (by decide +kernel) rfl (fun w' _ => exec_binop rfl rfl rfl rfl (run_or_u16 _ _ _ hlt hs16 w')) hS0 ?_; simp only [zq1, zq2, zq3]
  (apply reg_take 5 rfl rfl (by decide +kernel) rfl); (intro w' h1; go_simp; rfl); exact hS0; simp only [zq1, zq2, zq3]
  obtain ⟨ip, hip, hip2⟩ := Option.map_eq_some_iff.1 info_u16
  refine reg_do_last 6 (W1.drew.setCell ⟨B, 0, none⟩ (.int .u16 ((has0 m ||| (1 <<< sl) : Nat) : Int))) rfl rfl (by decide +kernel) rfl (exec_store_cell rfl rfl rfl hip hip2 rfl hS0 (thawed_at H1.out.2.drew.block 0)) ?_
  replace H1 := Lib.hid (And.intro ((H1.out.1.drew).setCell ⟨B, 0, none⟩ (.int .u16 ((has0 m ||| (1 <<< sl) : Nat) : Int))) (H1.out.2.drew.setCell (i := 0) (.int .u16 ((has0 m ||| (1 <<< sl) : Nat) : Int))))
  rw [nodeC_set0] at H1
  clear hip hip2 ip hS0
  generalize W1.drew.setCell ⟨B, 0, none⟩ (.int .u16 ((has0 m ||| (1 <<< sl) : Nat) : Int)) = W2 at H1 ⊢
  obtain ⟨k0, _, k2⟩ := nodeC_at H1.out.2.block nils_len
  have k17 := k2 sl _ (chs_at m hs16)
  have hfz := thawed_at H1.out.2.block (17 + sl)
  clear k0 k2
  go_wp2
  go_ret
  have h9 := H1.out.2.setCell (i := 17 + sl) (.int .i64 c)
  have h8 := H1.out.1.setCell ⟨B, 17 + sl, none⟩ (.int .i64 c)
  rw [nodeC_setCh _ _ _ _ _ nils_len, show (Value.int .i64 c) = .int .i64 ((some c).getD 0) from rfl, HU.out.2, ← HU.out.1] at h9
  refine ⟨_, rfl, h8.below_of h9, .inr ⟨B, rfl, anyB_upd_some (by rw [← HSB.out]; exact hs16), ?_, HOK.out⟩⟩
  rw [← HSB.out]
  exact h9.block
set_option maxHeartbeats 2000000 in
theorem setS_any (ok : Nat → Prop) (L : Nat) (hL : L + 1 ≤ 2) (b : Nat) (c : Int) (hb : b < 4096)
  (ih : ∀ (ok : Nat → Prop) (v : Value) (m : MapM) (w : World), NodeOk TNode ok w L v m → (∀ k, w.heap.size ≤ k → ok k) →
   Calls Tryz.prog 108 #[v, .int .i64 (L : Int), .int .i64 (b : Int), .int .i64 c] w fun e w' => ∃ v', e = .returned v' ∧ Hid (Below w.heap.size w w' ∧ NodeOk TNode ok w' L v' (upd m (b % 16 ^ (L + 1)) (some c))))
  (v : Value) (m : MapM) (w : World) (hn : NodeOk TNode ok w (L + 1) v m) (hok : ∀ k, w.heap.size ≤ k → ok k) :
  Calls Tryz.prog 108 #[v, .int .i64 ((L + 1 : Nat) : Int), .int .i64 (b : Int), .int .i64 c] w fun e w' => ∃ v', e = .returned v' ∧ Hid (Below w.heap.size w w' ∧ NodeOk TNode ok w' (L + 1) v' (upd m (b % 16 ^ (L + 2)) (some c))) := by
 have hsl := fun w' => slot_any (L + 1) b hL hb w'
 have hs16 := slotN_lt (L + 1) b
 have hlt := hasS_lt m L
 have HSL := Lib.hid hsl
 have HIH := Lib.hid ih
 have HOK := Lib.hid (And.intro hok (Nat.le_refl w.heap.size))
 clear hsl hok ih
 obtain ⟨q, rfl⟩ := NodeOk.ptr hn
 cases q with
 | none =>
  have hz : hasS m L = 0 := hasS_zero.2 (NodeOk.nil hn)
  have HK : Hid (OneC nils ∧ ∀ j k, nils[j]? = some k → NodeOk TNode ok w L k (sub m L j)) := Lib.hid ⟨OneC.nils, fun j k hj => by
   rw [nils_at hj]
   refine NodeOk.mk_nil ?_
   cases h : anyB (16 ^ (L + 1)) (sub m L j) with
   | false => rfl
   | true =>
    have hj16 : j < 16 := by have := (List.getElem?_eq_some_iff.1 hj).1; simpa [nils] using this
    have := sub_any hj16 h
    rw [NodeOk.nil hn] at this; cases this⟩
  have H1 := Lib.hid (And.intro ((Same.refl w).alloc (.cells (nodeC (hasS m L) nils zers) TNode)) ((Sat.old w).alloc (.cells (nodeC (hasS m L) nils zers) TNode)))
  have HZ := Lib.hid (show nodeC 0 nils zers = nodeC (hasS m L) nils zers by rw [hz])
  clear hn hz
  go_enter Tryz.func108, Tryz.ntmps108
  go_upto_region 4 with (first
   | ((with_reducible (refine wpList_alloc_zero ?_ TNode ?_ _ (zero_node _) ?_)); rfl; rfl)
   | ((with_reducible (refine wp_build_node ?_ ?_ ?_)); rfl; rfl)
   | ((with_reducible (refine wp_store_node (h := 0) (h' := 0) OneC.nils OneC.zers OneC.nils OneC.zers ?_ (.tmp 9) (.tmp 11) ?_ ?_ ?_ ?_)); rfl; rfl; rfl; rfl)
   )
  rw [HZ.out]
  generalize nils = kids at H1 HK ⊢
  generalize w.alloc (.cells (nodeC (hasS m L) kids zers) TNode) = W1 at H1 ⊢
  generalize hBe : w.heap.size = B at H1 ⊢
  replace HOK := Lib.hid (And.intro HOK.out.1 (show w.heap.size ≤ B by omega))
  clear hBe
  go_upto_region 5 with (go_at_call 136; refine (HSL.out _).mono ?_; rintro e w' ⟨rfl, rfl⟩)
  obtain ⟨kd, hkd⟩ : ∃ kd, kids[slotN (L + 1) b]? = some kd := ⟨_, List.getElem?_eq_getElem (by rw [HK.out.1.1]; exact hs16)⟩
  generalize hsl0 : slotN (L + 1) b = sl at *
  have hS0 : W1.drew.cell? ⟨B, 0, none⟩ = some (.int .u16 (hasS m L : Int)) := cells_at H1.out.2.block 0
  refine reg_begin (fun w' => w'.cell? ⟨B, 0, none⟩ = some (.int .u16 (hasS m L : Int))) (by kernel_rfl) ?_
  (apply reg_take 0 rfl rfl (by decide +kernel) rfl); (intro w' h1; go_simp; rfl); exact hS0; simp only [zq1, zq2, zq3]
  (apply reg_take 1 rfl rfl (by decide +kernel) rfl); (intro w' h1; go_simp; rfl); exact hS0; simp only [zq1, zq2, zq3]
  (apply reg_take 2 rfl rfl (by decide +kernel) rfl); (intro w' h1; go_simp; rfl); exact hS0; simp only [zq1, zq2, zq3]
  refine reg_take 3 (v := .int .u16 ((1 <<< sl : Nat) : Int)) rfl rfl (by decide +kernel) rfl (fun w' _ => exec_binop rfl rfl rfl rfl (run_shl_u16 _ _ hs16 w')) hS0 ?_; simp only [zq1, zq2, zq3]
  refine reg_take 4 (v := .int .u16 ((hasS m L ||| (1 <<< sl) : Nat) : Int)) rfl rfl (by decide +kernel) rfl (fun w' _ => exec_binop rfl rfl rfl rfl (run_or_u16 _ _ _ hlt hs16 w')) hS0 ?_; simp only [zq1, zq2, zq3]
  (apply reg_take 5 rfl rfl (by decide +kernel) rfl); (intro w' h1; go_simp; rfl); exact hS0; simp only [zq1, zq2, zq3]
  obtain ⟨ip, hip, hip2⟩ := Option.map_eq_some_iff.1 info_u16
  refine reg_do_last 6 (W1.drew.setCell ⟨B, 0, none⟩ (.int .u16 ((hasS m L ||| (1 <<< sl) : Nat) : Int))) rfl rfl (by decide +kernel) rfl (exec_store_cell rfl rfl rfl hip hip2 rfl hS0 (thawed_at H1.out.2.drew.block 0)) ?_
  replace H1 := Lib.hid (And.intro ((H1.out.1.drew).setCell ⟨B, 0, none⟩ (.int .u16 ((hasS m L ||| (1 <<< sl) : Nat) : Int))) (H1.out.2.drew.setCell (i := 0) (.int .u16 ((hasS m L ||| (1 <<< sl) : Nat) : Int))))
  rw [nodeC_set0] at H1
  clear hip hip2 ip hS0
  generalize W1.drew.setCell ⟨B, 0, none⟩ (.int .u16 ((hasS m L ||| (1 <<< sl) : Nat) : Int)) = W2 at H1 ⊢
  obtain ⟨k0, k1, _⟩ := nodeC_at H1.out.2.block HK.out.1.1
  have k17 := k1 sl _ hkd
  have hbw : Below w.heap.size w W2 := H1.out.1.below_of H1.out.2
  have hkn : NodeOk TNode (fun k => ok k ∧ k ≠ B) W2 L kd (sub m L sl) := ((HK.out.2 sl kd hkd).weaken (ok' := fun k => ok k ∧ k ≠ B) (fun k h1 h2 => ⟨h1, by have := HOK.out.2; omega⟩)).below hbw
  have hih := HIH.out (fun k => ok k ∧ k ≠ B) kd (sub m L sl) W2 hkn (fun k hk => ⟨HOK.out.1 k (by have := hbw.size; omega), by have := H1.out.2.lt; omega⟩)
  obtain ⟨kq, rfl⟩ := NodeOk.ptr hkn
  have HC := Lib.hid hih
  have HKD := Lib.hid hkd
  have hL0 : (((L : Int) + 1) == 0) = false := by simp; omega
  have hL1 : (L : Int) ≤ 1 := by omega
  clear k0 k1 hkn hih hbw hkd
  go_wp2_with (go_at_call 108; refine HC.out.mono ?_; clear HC; rintro e W3 ⟨v3, rfl, h3⟩; obtain ⟨q3, rfl⟩ := NodeOk.ptr h3.out.2; replace H1 := Lib.hid (And.intro (H1.out.1.below h3.out.1) (And.intro (H1.out.2.below h3.out.1) h3.out.2)); clear h3 k17; obtain ⟨_, k1, _⟩ := nodeC_at H1.out.2.1.block HK.out.1.1; have k17 := k1 sl _ HKD.out; have hfz := thawed_at H1.out.2.1.block (1 + sl); clear k1)
  go_ret
  have h9 := H1.out.2.1.setCell (i := 1 + sl) (.pointer q3)
  have h8 := H1.out.1.setCell ⟨B, 1 + sl, none⟩ (.pointer q3)
  rw [nodeC_setKid _ _ _ _ _ HK.out.1.1 hs16] at h9
  have hB := HOK.out.2
  have hbw := h8.below_of h9
  have hlt2 : b % 16 ^ (L + 2) < 16 ^ (L + 2) := Nat.mod_lt _ (pow16_pos _)
  have hdv : b % 16 ^ (L + 2) / 16 ^ (L + 1) = sl := by rw [bmod_div]; exact hsl0
  refine ⟨_, rfl, hbw, .inr ⟨B, kids.set sl (.pointer q3), rfl, anyB_upd_some hlt2, by rw [List.length_set]; exact HK.out.1.1, ?_, ?_, HOK.out.1 B hB⟩⟩
  ·rw [hasS_set m L c hlt2, hdv]
   exact h9.block
  ·intro j k hj
   rw [sub_upd, hdv, bmod_mod]
   rw [List.getElem?_set] at hj
   by_cases hjs : j = sl
   ·subst hjs
    rw [if_pos rfl, if_pos (by rw [HK.out.1.1]; exact hs16)] at hj
    cases hj
    rw [if_pos rfl]
    refine NodeOk.keep (fun k hk _ => ?_) (NodeOk.weaken (ok' := fun k => ok k ∧ k ≠ B) (fun k hk _ => hk) H1.out.2.2) |>.weaken (fun k hk _ => hk.1)
    exact heap_setCell_other _ _ _ _ hk.2
   ·rw [if_neg (Ne.symm hjs)] at hj
    rw [if_neg hjs]
    exact (HK.out.2 j k hj).below hbw
 | some ad =>
  obtain ⟨b0, rfl, _, _, _⟩ := NodeOk.block hn
  obtain ⟨kids, hkl, hh, hkk, _, _⟩ := NodeOk.inner hn
  have hone := NodeOk.one hkl hkk
  have HK := Lib.hid (And.intro hone hkk)
  have H1 := Lib.hid (And.intro ((Same.refl w).alloc (.cells (nodeC (hasS m L) kids zers) TNode)) ((Sat.old w).alloc (.cells (nodeC (hasS m L) kids zers) TNode)))
  clear hn hkl hkk
  go_enter Tryz.func108, Tryz.ntmps108
  go_upto_region 4 with (first
   | ((with_reducible (refine wpList_alloc_zero ?_ TNode ?_ _ (zero_node _) ?_)); rfl; rfl)
   | ((with_reducible (refine wp_build_node ?_ ?_ ?_)); rfl; rfl)
   | ((with_reducible (refine wp_load_node hone OneC.zers (heap_alloc_old hh _) ?_ (.tmp 15) ?_ ?_ ?_)); rfl; rfl; rfl)
   | ((with_reducible (refine wp_store_node (h := 0) (h' := 0) OneC.nils OneC.zers OneC.nils OneC.zers ?_ (.tmp 9) (.tmp 11) ?_ ?_ ?_ ?_)); rfl; rfl; rfl; rfl)
   | ((with_reducible (refine wp_store_node (h := 0) (h' := hasS m L) OneC.nils OneC.zers hone OneC.zers ?_ (.tmp 9) (.tmp 16) ?_ ?_ ?_ ?_)); rfl; rfl; rfl; rfl)
   )
  clear hh hone
  simp only [Act.put, zq1, zq2, zq3]
  generalize w.alloc (.cells (nodeC (hasS m L) kids zers) TNode) = W1 at H1 ⊢
  generalize hBe : w.heap.size = B at H1 ⊢
  replace HOK := Lib.hid (And.intro HOK.out.1 (show w.heap.size ≤ B by omega))
  clear hBe
  go_upto_region 5 with (go_at_call 136; refine (HSL.out _).mono ?_; rintro e w' ⟨rfl, rfl⟩)
  obtain ⟨kd, hkd⟩ : ∃ kd, kids[slotN (L + 1) b]? = some kd := ⟨_, List.getElem?_eq_getElem (by rw [HK.out.1.1]; exact hs16)⟩
  generalize hsl0 : slotN (L + 1) b = sl at *
  have hS0 : W1.drew.cell? ⟨B, 0, none⟩ = some (.int .u16 (hasS m L : Int)) := cells_at H1.out.2.block 0
  refine reg_begin (fun w' => w'.cell? ⟨B, 0, none⟩ = some (.int .u16 (hasS m L : Int))) (by kernel_rfl) ?_
  (apply reg_take 0 rfl rfl (by decide +kernel) rfl); (intro w' h1; go_simp; rfl); exact hS0; simp only [zq1, zq2, zq3]
  (apply reg_take 1 rfl rfl (by decide +kernel) rfl); (intro w' h1; go_simp; rfl); exact hS0; simp only [zq1, zq2, zq3]
  (apply reg_take 2 rfl rfl (by decide +kernel) rfl); (intro w' h1; go_simp; rfl); exact hS0; simp only [zq1, zq2, zq3]
  refine reg_take 3 (v := .int .u16 ((1 <<< sl : Nat) : Int)) rfl rfl (by decide +kernel) rfl (fun w' _ => exec_binop rfl rfl rfl rfl (run_shl_u16 _ _ hs16 w')) hS0 ?_; simp only [zq1, zq2, zq3]
  refine reg_take 4 (v := .int .u16 ((hasS m L ||| (1 <<< sl) : Nat) : Int)) rfl rfl (by decide +kernel) rfl (fun w' _ => exec_binop rfl rfl rfl rfl (run_or_u16 _ _ _ hlt hs16 w')) hS0 ?_; simp only [zq1, zq2, zq3]
  (apply reg_take 5 rfl rfl (by decide +kernel) rfl); (intro w' h1; go_simp; rfl); exact hS0; simp only [zq1, zq2, zq3]
  obtain ⟨ip, hip, hip2⟩ := Option.map_eq_some_iff.1 info_u16
  refine reg_do_last 6 (W1.drew.setCell ⟨B, 0, none⟩ (.int .u16 ((hasS m L ||| (1 <<< sl) : Nat) : Int))) rfl rfl (by decide +kernel) rfl (exec_store_cell rfl rfl rfl hip hip2 rfl hS0 (thawed_at H1.out.2.drew.block 0)) ?_
  replace H1 := Lib.hid (And.intro ((H1.out.1.drew).setCell ⟨B, 0, none⟩ (.int .u16 ((hasS m L ||| (1 <<< sl) : Nat) : Int))) (H1.out.2.drew.setCell (i := 0) (.int .u16 ((hasS m L ||| (1 <<< sl) : Nat) : Int))))
  rw [nodeC_set0] at H1
  clear hip hip2 ip hS0
  generalize W1.drew.setCell ⟨B, 0, none⟩ (.int .u16 ((hasS m L ||| (1 <<< sl) : Nat) : Int)) = W2 at H1 ⊢
  obtain ⟨k0, k1, _⟩ := nodeC_at H1.out.2.block HK.out.1.1
  have k17 := k1 sl _ hkd
  have hbw : Below w.heap.size w W2 := H1.out.1.below_of H1.out.2
  have hkn : NodeOk TNode (fun k => ok k ∧ k ≠ B) W2 L kd (sub m L sl) := ((HK.out.2 sl kd hkd).weaken (ok' := fun k => ok k ∧ k ≠ B) (fun k h1 h2 => ⟨h1, by have := HOK.out.2; omega⟩)).below hbw
  have hih := HIH.out (fun k => ok k ∧ k ≠ B) kd (sub m L sl) W2 hkn (fun k hk => ⟨HOK.out.1 k (by have := hbw.size; omega), by have := H1.out.2.lt; omega⟩)
  obtain ⟨kq, rfl⟩ := NodeOk.ptr hkn
  have HC := Lib.hid hih
  have HKD := Lib.hid hkd
  have hL0 : (((L : Int) + 1) == 0) = false := by simp; omega
  have hL1 : (L : Int) ≤ 1 := by omega
  clear k0 k1 hkn hih hbw hkd
  go_wp2_with (go_at_call 108; refine HC.out.mono ?_; clear HC; rintro e W3 ⟨v3, rfl, h3⟩; obtain ⟨q3, rfl⟩ := NodeOk.ptr h3.out.2; replace H1 := Lib.hid (And.intro (H1.out.1.below h3.out.1) (And.intro (H1.out.2.below h3.out.1) h3.out.2)); clear h3 k17; obtain ⟨_, k1, _⟩ := nodeC_at H1.out.2.1.block HK.out.1.1; have k17 := k1 sl _ HKD.out; have hfz := thawed_at H1.out.2.1.block (1 + sl); clear k1)
  go_ret
  have h9 := H1.out.2.1.setCell (i := 1 + sl) (.pointer q3)
  have h8 := H1.out.1.setCell ⟨B, 1 + sl, none⟩ (.pointer q3)
  rw [nodeC_setKid _ _ _ _ _ HK.out.1.1 hs16] at h9
  have hB := HOK.out.2
  have hbw := h8.below_of h9
  have hlt2 : b % 16 ^ (L + 2) < 16 ^ (L + 2) := Nat.mod_lt _ (pow16_pos _)
  have hdv : b % 16 ^ (L + 2) / 16 ^ (L + 1) = sl := by rw [bmod_div]; exact hsl0
  refine ⟨_, rfl, hbw, .inr ⟨B, kids.set sl (.pointer q3), rfl, anyB_upd_some hlt2, by rw [List.length_set]; exact HK.out.1.1, ?_, ?_, HOK.out.1 B hB⟩⟩
  ·rw [hasS_set m L c hlt2, hdv]
   exact h9.block
  ·intro j k hj
   rw [sub_upd, hdv, bmod_mod]
   rw [List.getElem?_set] at hj
   by_cases hjs : j = sl
   ·subst hjs
    rw [if_pos rfl, if_pos (by rw [HK.out.1.1]; exact hs16)] at hj
    cases hj
    rw [if_pos rfl]
    refine NodeOk.keep (fun k hk _ => ?_) (NodeOk.weaken (ok' := fun k => ok k ∧ k ≠ B) (fun k hk _ => hk) H1.out.2.2) |>.weaken (fun k hk _ => hk.1)
    exact heap_setCell_other _ _ _ _ hk.2
   ·rw [if_neg (Ne.symm hjs)] at hj
    rw [if_neg hjs]
    exact (HK.out.2 j k hj).below hbw
end Go.Proofs.YteikbikopgabjaaGreatDoor
