/- tree.node.clear and tree.Tree.Clear. -/
import Derived.Test.YtednjhlkhecihaaGreatDoorVv
namespace Go.Proofs.YtednjhlkhecihaaGreatDoor
open Go.RowKit Go.Vol Go.Sl

theorem run_andNot_u16 (t : TypeId) (x r : Nat) (hx : x < 65536) (hr : r < 16) (h : x.testBit r = true) (w : World) : (binOp .andNot t (.int .u16 (x : Int)) (.int .u16 ((1 <<< r : Nat) : Int))).run Tryz.prog w = .ok (.int .u16 ((x ^^^ (1 <<< r) : Nat) : Int)) w := by
  have e : (binOp .andNot t (.int .u16 (x : Int)) (.int .u16 ((1 <<< r : Nat) : Int))).run Tryz.prog w = .ok (.int .u16 (bits .andNot .u16 (x : Int) ((1 <<< r : Nat) : Int))) w := rfl
  rw [e, andNot_shl x r hx hr h]

set_option maxHeartbeats 2000000 in
theorem clear0_any (ok : Nat → Prop) (v : Value) (m : MapM) (b : Nat) (hb : b < 4096) (w : World) (hn : NodeOk TNode ok w 0 v m) (hmb : m (b % 16) ≠ none) (hok : ∀ k, w.heap.size ≤ k → ok k) :
    Calls Tryz.prog 93 #[v, .int .i64 0, .int .i64 (b : Int)] w fun e w' => ∃ v', e = .returned v' ∧ Hid (Below w.heap.size w w' ∧ NodeOk TNode ok w' 0 v' (upd m (b % 16) none)) := by
  have hsl := fun w' => slot_any 0 b (by omega) hb w'
  have hs16 := slotN_lt 0 b
  have hsb : slotN 0 b = b % 16 := by unfold slotN; simp
  have hlt := has0_lt m
  have HSL := Lib.hid hsl
  have HSB := Lib.hid hsb
  have HOK := Lib.hid (hok w.heap.size (Nat.le_refl _))
  rw [← hsb] at hmb
  have HBIT := Lib.hid (show (has0 m).testBit (slotN 0 b) = true by rw [has0_bit m hs16]; cases h : m (slotN 0 b) <;> simp_all)
  have HU := Lib.hid (And.intro (has0_clear hs16 hmb) (show (chs m).set (slotN 0 b) (.int .i64 0) = chs (upd m (slotN 0 b) none) from chs_set m none hs16))
  clear hsl hsb hok hmb
  have hcm := OneC.chs m
  obtain ⟨q, rfl⟩ := NodeOk.ptr hn
  have H1 := Lib.hid (And.intro ((Same.refl w).alloc (.cells (nodeC (has0 m) nils (chs m)) TNode)) ((Sat.old w).alloc (.cells (nodeC (has0 m) nils (chs m)) TNode)))
  cases q with
  | none =>
    exfalso
    have h0 := anyB_false.1 (NodeOk.nil hn) (slotN 0 b) hs16
    have h1 := HBIT.out
    rw [has0_bit m hs16, h0] at h1; cases h1
  | some ad =>
    obtain ⟨b0, rfl, _, _, _⟩ := NodeOk.block hn
    obtain ⟨hh, _, _⟩ := NodeOk.leaf hn
    clear hn
    go_enter Tryz.func93, Tryz.ntmps93
    go_upto_region 2 with (first
      | ((with_reducible (refine wp_load_node OneC.nils hcm hh ?_ (.tmp 10) ?_ ?_ ?_)); rfl; rfl; rfl)
      | ((with_reducible (refine wpList_alloc_zero ?_ TNode ?_ _ (zero_node _) ?_)); rfl; rfl)
      | ((with_reducible (refine wp_store_node (h := 0) (h' := has0 m) OneC.nils OneC.zers OneC.nils hcm ?_ (.tmp 7) (.tmp 11) ?_ ?_ ?_ ?_)); rfl; rfl; rfl; rfl)
      )
    clear hh
    simp only [Act.put, List.setIfInBounds_toArray, List.set_cons_succ, List.set_cons_zero]
    generalize w.alloc (.cells (nodeC (has0 m) nils (chs m)) TNode) = W1 at H1 ⊢
    generalize w.heap.size = B at H1 HOK ⊢
    obtain ⟨k0, _, k2⟩ := nodeC_at H1.out.2.block nils_len
    have k17 := k2 (slotN 0 b) _ (chs_at m hs16)
    have hfz := thawed_at H1.out.2.block (17 + slotN 0 b)
    clear k0 k2
    generalize slotN 0 b = sl at *
    go_upto_region 8 with (go_at_call 97; refine (HSL.out _).mono ?_; rintro e w' ⟨rfl, rfl⟩)
    clear k17 hfz
    have h9 := H1.out.2.setCell (i := 17 + sl) (.int .i64 0)
    rw [nodeC_setCh _ _ _ _ _ nils_len, HU.out.2] at h9
    replace H1 := Lib.hid (And.intro (H1.out.1.setCell ⟨B, 17 + sl, none⟩ (.int .i64 0)) h9)
    clear h9
    generalize W1.setCell ⟨B, 17 + sl, none⟩ (.int .i64 0) = W2 at H1 ⊢
    have hS0 : W2.drew.cell? ⟨B, 0, none⟩ = some (.int .u16 (has0 m : Int)) := cells_at H1.out.2.block 0
    refine reg_begin (fun w' => w'.cell? ⟨B, 0, none⟩ = some (.int .u16 (has0 m : Int))) (by kernel_rfl) ?_
    (apply reg_take 0 rfl rfl (by decide +kernel) rfl); (intro w' h1; go_simp; rfl); exact hS0; simp only [List.setIfInBounds_toArray, List.set_cons_succ, List.set_cons_zero]
    (apply reg_take 1 rfl rfl (by decide +kernel) rfl); (intro w' h1; go_simp; rfl); exact hS0; simp only [List.setIfInBounds_toArray, List.set_cons_succ, List.set_cons_zero]
    (apply reg_take 2 rfl rfl (by decide +kernel) rfl); (intro w' h1; go_simp; rfl); exact hS0; simp only [List.setIfInBounds_toArray, List.set_cons_succ, List.set_cons_zero]
    refine reg_take 3 (v := .int .u16 ((1 <<< sl : Nat) : Int)) rfl rfl (by decide +kernel) rfl (fun w' _ => exec_binop rfl rfl rfl rfl (run_shl_u16 _ _ hs16 w')) hS0 ?_; simp only [List.setIfInBounds_toArray, List.set_cons_succ, List.set_cons_zero]
    refine reg_take 4 (v := .int .u16 ((has0 m ^^^ (1 <<< sl) : Nat) : Int)) rfl rfl (by decide +kernel) rfl (fun w' _ => exec_binop rfl rfl rfl rfl (run_andNot_u16 _ _ _ hlt hs16 HBIT.out w')) hS0 ?_; simp only [List.setIfInBounds_toArray, List.set_cons_succ, List.set_cons_zero]
    (apply reg_take 5 rfl rfl (by decide +kernel) rfl); (intro w' h1; go_simp; rfl); exact hS0; simp only [List.setIfInBounds_toArray, List.set_cons_succ, List.set_cons_zero]
    obtain ⟨ip, hip, hip2⟩ := Option.map_eq_some_iff.1 info_u16
    refine reg_do_last 6 (W2.drew.setCell ⟨B, 0, none⟩ (.int .u16 ((has0 m ^^^ (1 <<< sl) : Nat) : Int))) rfl rfl (by decide +kernel) rfl (exec_store_cell rfl rfl rfl hip hip2 rfl hS0 (thawed_at H1.out.2.drew.block 0)) ?_
    have h8 := (H1.out.1.drew).setCell ⟨B, 0, none⟩ (.int .u16 ((has0 m ^^^ (1 <<< sl) : Nat) : Int))
    have h9 := H1.out.2.drew.setCell (i := 0) (.int .u16 ((has0 m ^^^ (1 <<< sl) : Nat) : Int))
    rw [nodeC_set0] at h9
    clear hip hip2 ip hS0
    have hc0 : (W2.drew.setCell ⟨B, 0, none⟩ (.int .u16 ((has0 m ^^^ (1 <<< sl) : Nat) : Int))).cell? ⟨B, 0, none⟩ = some (.int .u16 ((has0 m ^^^ (1 <<< sl) : Nat) : Int)) := cells_at h9.block 0
    have hxe : has0 m ^^^ (1 <<< sl) = has0 (upd m sl none) := HU.out.1.symm
    rw [hxe] at h8 h9 hc0 ⊢
    have HE := Lib.hid (And.intro h8 h9)
    clear h8 h9 hxe
    generalize W2.drew.setCell ⟨B, 0, none⟩ (.int .u16 ((has0 (upd m sl none) : Nat) : Int)) = W3 at *
    cases hz : anyB 16 (upd m sl none) with
    | false =>
      have hz0 : ((has0 (upd m sl none) : Nat) : Int) = 0 := by rw [has0_zero.2 hz]; rfl
      rw [hz0] at hc0
      clear hz0
      go_wp2
      go_ret
      refine ⟨_, rfl, HE.out.1.below_of HE.out.2, ?_⟩
      rw [← HSB.out]
      exact NodeOk.mk_nil hz
    | true =>
      have hz0 : (((has0 (upd m sl none) : Nat) : Int) == 0) = false := by
        have : has0 (upd m sl none) ≠ 0 := fun h => by rw [has0_zero.1 h] at hz; cases hz
        simp; omega
      go_wp2
      go_ret
      refine ⟨_, rfl, HE.out.1.below_of HE.out.2, .inr ⟨B, rfl, ?_, ?_, HOK.out⟩⟩
      · rw [← HSB.out]; exact hz
      · rw [← HSB.out]; exact HE.out.2.block

set_option maxHeartbeats 2000000 in
theorem clearS_any (ok : Nat → Prop) (L : Nat) (hL : L + 1 ≤ 2) (b : Nat) (hb : b < 4096)
    (ih : ∀ (ok : Nat → Prop) (v : Value) (m : MapM) (w : World), NodeOk TNode ok w L v m → m (b % 16 ^ (L + 1)) ≠ none → (∀ k, w.heap.size ≤ k → ok k) →
      Calls Tryz.prog 93 #[v, .int .i64 (L : Int), .int .i64 (b : Int)] w fun e w' => ∃ v', e = .returned v' ∧ Hid (Below w.heap.size w w' ∧ NodeOk TNode ok w' L v' (upd m (b % 16 ^ (L + 1)) none)))
    (v : Value) (m : MapM) (w : World) (hn : NodeOk TNode ok w (L + 1) v m) (hmb : m (b % 16 ^ (L + 2)) ≠ none) (hok : ∀ k, w.heap.size ≤ k → ok k) :
    Calls Tryz.prog 93 #[v, .int .i64 ((L + 1 : Nat) : Int), .int .i64 (b : Int)] w fun e w' => ∃ v', e = .returned v' ∧ Hid (Below w.heap.size w w' ∧ NodeOk TNode ok w' (L + 1) v' (upd m (b % 16 ^ (L + 2)) none)) := by
  have hsl := fun w' => slot_any (L + 1) b hL hb w'
  have hs16 := slotN_lt (L + 1) b
  have hlt := hasS_lt m L
  have HSL := Lib.hid hsl
  have HIH := Lib.hid ih
  have HOK := Lib.hid (And.intro hok (Nat.le_refl w.heap.size))
  have hlt2 : b % 16 ^ (L + 2) < 16 ^ (L + 2) := Nat.mod_lt _ (pow16_pos _)
  have hsub : sub m L (slotN (L + 1) b) (b % 16 ^ (L + 1)) ≠ none := by
    unfold sub slotN
    rw [if_pos (Nat.mod_lt _ (pow16_pos _)), ← mod_split]; exact hmb
  have HBIT := Lib.hid (show (hasS m L).testBit (slotN (L + 1) b) = true by rw [hasS_bit m L hs16]; exact anyB_true.2 ⟨_, Nat.mod_lt _ (pow16_pos _), hsub⟩)
  have hdv : b % 16 ^ (L + 2) / 16 ^ (L + 1) = slotN (L + 1) b := bmod_div b L
  have hkeep := hasS_keep (m := m) (L := L) (b := b % 16 ^ (L + 2)) hmb
  have hdrop := hasS_clear (m := m) (L := L) hlt2 hmb
  have hne := clear_nonempty (m := m) (L := L) hlt2
  have hmask0 : hasS (upd m (b % 16 ^ (L + 2)) none) L = 0 ↔ anyB (16 ^ (L + 2)) (upd m (b % 16 ^ (L + 2)) none) = false := hasS_zero
  have hsu : ∀ j, sub (upd m (b % 16 ^ (L + 2)) none) L j = if j = slotN (L + 1) b then upd (sub m L j) (b % 16 ^ (L + 1)) none else sub m L j := fun j => by rw [sub_upd, hdv, bmod_mod]
  rw [hdv, bmod_mod] at hkeep hdrop hne
  have HK2 := Lib.hid (And.intro (And.intro hkeep hdrop) (And.intro hne (And.intro hmask0 (And.intro hsu hsub))))
  generalize upd m (b % 16 ^ (L + 2)) none = mu at HK2 ⊢
  clear hsl hok ih hlt2 hsub hdv hkeep hdrop hne hmb hmask0 hsu
  obtain ⟨q, rfl⟩ := NodeOk.ptr hn
  cases q with
  | none =>
    exfalso
    have h0 := HBIT.out
    rw [hasS_bit m L hs16] at h0
    have := sub_any hs16 h0
    rw [NodeOk.nil hn] at this; cases this
  | some ad =>
    obtain ⟨b0, rfl, _, _, _⟩ := NodeOk.block hn
    obtain ⟨kids, hkl, hh, hkk, _, _⟩ := NodeOk.inner hn
    have hone := NodeOk.one hkl hkk
    have HK := Lib.hid (And.intro hone hkk)
    have H1 := Lib.hid (And.intro ((Same.refl w).alloc (.cells (nodeC (hasS m L) kids zers) TNode)) ((Sat.old w).alloc (.cells (nodeC (hasS m L) kids zers) TNode)))
    clear hn hkl hkk
    go_enter Tryz.func93, Tryz.ntmps93
    go_upto_region 2 with (first
      | ((with_reducible (refine wp_load_node hone OneC.zers hh ?_ (.tmp 10) ?_ ?_ ?_)); rfl; rfl; rfl)
      | ((with_reducible (refine wpList_alloc_zero ?_ TNode ?_ _ (zero_node _) ?_)); rfl; rfl)
      | ((with_reducible (refine wp_store_node (h := 0) (h' := hasS m L) OneC.nils OneC.zers hone OneC.zers ?_ (.tmp 7) (.tmp 11) ?_ ?_ ?_ ?_)); rfl; rfl; rfl; rfl)
      )
    clear hh hone
    simp only [Act.put, List.setIfInBounds_toArray, List.set_cons_succ, List.set_cons_zero]
    generalize w.alloc (.cells (nodeC (hasS m L) kids zers) TNode) = W2 at H1 ⊢
    generalize hBe : w.heap.size = B at H1 ⊢
    replace HOK := Lib.hid (And.intro HOK.out.1 (show w.heap.size ≤ B by omega))
    clear hBe
    obtain ⟨kd, hkd⟩ : ∃ kd, kids[slotN (L + 1) b]? = some kd := ⟨_, List.getElem?_eq_getElem (by rw [HK.out.1.1]; exact hs16)⟩
    generalize slotN (L + 1) b = sl at *
    obtain ⟨k0, k1, _⟩ := nodeC_at H1.out.2.block HK.out.1.1
    have k17 := k1 sl _ hkd
    have hbw : Below w.heap.size w W2 := H1.out.1.below_of H1.out.2
    have hkn : NodeOk TNode (fun k => ok k ∧ k ≠ B) W2 L kd (sub m L sl) := ((HK.out.2 sl kd hkd).weaken (ok' := fun k => ok k ∧ k ≠ B) (fun k h1 h2 => ⟨h1, by have := HOK.out.2; omega⟩)).below hbw
    have hih := HIH.out (fun k => ok k ∧ k ≠ B) kd (sub m L sl) W2 hkn HK2.out.2.2.2.2 (fun k hk => ⟨HOK.out.1 k (by have := hbw.size; omega), by have := H1.out.2.lt; omega⟩)
    obtain ⟨kq, rfl⟩ := NodeOk.ptr hkn
    have HC := Lib.hid hih
    have HKD := Lib.hid hkd
    have hL0 : (((L : Int) + 1) == 0) = false := by simp; omega
    have hL1 : (L : Int) ≤ 1 := by omega
    clear k0 k1 hkn hih hbw hkd
    go_upto_region 6 with (first
      | (go_at_call 97; refine (HSL.out _).mono ?_; rintro e w' ⟨rfl, rfl⟩)
      | (go_at_call 93; refine HC.out.mono ?_; clear HC; rintro e W3 ⟨v3, rfl, h3⟩; obtain ⟨q3, rfl⟩ := NodeOk.ptr h3.out.2; replace H1 := Lib.hid (And.intro (H1.out.1.below h3.out.1) (And.intro (H1.out.2.below h3.out.1) h3.out.2)); clear h3 k17; obtain ⟨_, k1, _⟩ := nodeC_at H1.out.2.1.block HK.out.1.1; have k17 := k1 sl _ HKD.out; have hfz := thawed_at H1.out.2.1.block (1 + sl); clear k1))
    have h9 := H1.out.2.1.setCell (i := 1 + sl) (.pointer q3)
    have h8 := H1.out.1.setCell ⟨B, 1 + sl, none⟩ (.pointer q3)
    rw [nodeC_setKid _ _ _ _ _ HK.out.1.1 hs16] at h9
    have hnk : NodeOk TNode ok (W3.setCell ⟨B, 1 + sl, none⟩ (.pointer q3)) L (.pointer q3) (upd (sub m L sl) (b % 16 ^ (L + 1)) none) := NodeOk.weaken (fun k hk _ => hk.1) (NodeOk.keep (fun k hk _ => heap_setCell_other _ ⟨B, 1 + sl, none⟩ _ (.pointer q3) hk.2) H1.out.2.2)
    have hne3 : NodeOk TNode (fun k => ok k ∧ k ≠ B) (W3.setCell ⟨B, 1 + sl, none⟩ (.pointer q3)) L (.pointer q3) (upd (sub m L sl) (b % 16 ^ (L + 1)) none) := NodeOk.keep (fun k hk _ => heap_setCell_other _ ⟨B, 1 + sl, none⟩ _ (.pointer q3) hk.2) H1.out.2.2
    replace H1 := Lib.hid (And.intro h8 h9)
    have HN3 := Lib.hid hne3
    clear h8 h9 hnk hne3 k17 hfz
    generalize W3.setCell ⟨B, 1 + sl, none⟩ (.pointer q3) = W2 at *
    obtain ⟨_, k1, _⟩ := nodeC_at H1.out.2.block (show (kids.set sl (.pointer q3)).length = 16 by rw [List.length_set]; exact HK.out.1.1)
    have k17 := k1 sl (.pointer q3) (by rw [List.getElem?_set, if_pos rfl, if_pos (by rw [HK.out.1.1]; exact hs16)])
    clear k1
    have hB := HOK.out.2
    have HKIDS := Lib.hid (show ∀ (W : World), Below w.heap.size w W → (∀ k, k ≠ B → k < W2.heap.size → W.heap[k]? = W2.heap[k]?) → ∀ j k, (kids.set sl (.pointer q3))[j]? = some k → NodeOk TNode ok W L k (sub mu L j) from fun W hbw hkeep j k hj => by
      rw [HK2.out.2.2.2.1]
      rw [List.getElem?_set] at hj
      by_cases hjs : j = sl
      · subst hjs
        rw [if_pos rfl, if_pos (by rw [HK.out.1.1]; exact hs16)] at hj
        cases hj
        rw [if_pos rfl]
        exact NodeOk.weaken (fun k hk _ => hk.1) (NodeOk.keep (fun k hk hlt => hkeep k hk.2 hlt) HN3.out)
      · rw [if_neg (Ne.symm hjs)] at hj
        rw [if_neg hjs]
        exact (HK.out.2 j k hj).below hbw)
    cases q3 with
    | some a3 =>
      have hany : anyB (16 ^ (L + 1)) (upd (sub m L sl) (b % 16 ^ (L + 1)) none) = true := (NodeOk.block HN3.out).choose_spec.2.2.2
      go_wp2
      go_ret
      have hbw := H1.out.1.below_of H1.out.2
      refine ⟨_, rfl, hbw, .inr ⟨B, kids.set sl (.pointer (some a3)), rfl, HK2.out.2.1 hany, by rw [List.length_set]; exact HK.out.1.1, ?_, HKIDS.out W2 hbw (fun _ _ _ => rfl), HOK.out.1 B hB⟩⟩
      rw [HK2.out.1.1 hany]
      exact H1.out.2.block
    | none =>
      have hany : anyB (16 ^ (L + 1)) (upd (sub m L sl) (b % 16 ^ (L + 1)) none) = false := NodeOk.nil HN3.out
      have HDR := Lib.hid (HK2.out.1.2 hany)
      clear hany
      go_upto_region 8 with (fail)
      clear k17
      have hS0 : W2.drew.cell? ⟨B, 0, none⟩ = some (.int .u16 (hasS m L : Int)) := cells_at H1.out.2.block 0
      refine reg_begin (fun w' => w'.cell? ⟨B, 0, none⟩ = some (.int .u16 (hasS m L : Int))) (by kernel_rfl) ?_
      (apply reg_take 0 rfl rfl (by decide +kernel) rfl); (intro w' h1; go_simp; rfl); exact hS0; simp only [List.setIfInBounds_toArray, List.set_cons_succ, List.set_cons_zero]
      (apply reg_take 1 rfl rfl (by decide +kernel) rfl); (intro w' h1; go_simp; rfl); exact hS0; simp only [List.setIfInBounds_toArray, List.set_cons_succ, List.set_cons_zero]
      (apply reg_take 2 rfl rfl (by decide +kernel) rfl); (intro w' h1; go_simp; rfl); exact hS0; simp only [List.setIfInBounds_toArray, List.set_cons_succ, List.set_cons_zero]
      refine reg_take 3 (v := .int .u16 ((1 <<< sl : Nat) : Int)) rfl rfl (by decide +kernel) rfl (fun w' _ => exec_binop rfl rfl rfl rfl (run_shl_u16 _ _ hs16 w')) hS0 ?_; simp only [List.setIfInBounds_toArray, List.set_cons_succ, List.set_cons_zero]
      refine reg_take 4 (v := .int .u16 ((hasS m L ^^^ (1 <<< sl) : Nat) : Int)) rfl rfl (by decide +kernel) rfl (fun w' _ => exec_binop rfl rfl rfl rfl (run_andNot_u16 _ _ _ hlt hs16 HBIT.out w')) hS0 ?_; simp only [List.setIfInBounds_toArray, List.set_cons_succ, List.set_cons_zero]
      (apply reg_take 5 rfl rfl (by decide +kernel) rfl); (intro w' h1; go_simp; rfl); exact hS0; simp only [List.setIfInBounds_toArray, List.set_cons_succ, List.set_cons_zero]
      obtain ⟨ip, hip, hip2⟩ := Option.map_eq_some_iff.1 info_u16
      refine reg_do_last 6 (W2.drew.setCell ⟨B, 0, none⟩ (.int .u16 ((hasS m L ^^^ (1 <<< sl) : Nat) : Int))) rfl rfl (by decide +kernel) rfl (exec_store_cell rfl rfl rfl hip hip2 rfl hS0 (thawed_at H1.out.2.drew.block 0)) ?_
      have h8 := (H1.out.1.drew).setCell ⟨B, 0, none⟩ (.int .u16 ((hasS m L ^^^ (1 <<< sl) : Nat) : Int))
      have h9 := H1.out.2.drew.setCell (i := 0) (.int .u16 ((hasS m L ^^^ (1 <<< sl) : Nat) : Int))
      rw [nodeC_set0] at h9
      clear hip hip2 ip hS0
      have hc0 : (W2.drew.setCell ⟨B, 0, none⟩ (.int .u16 ((hasS m L ^^^ (1 <<< sl) : Nat) : Int))).cell? ⟨B, 0, none⟩ = some (.int .u16 ((hasS m L ^^^ (1 <<< sl) : Nat) : Int)) := cells_at h9.block 0
      rw [← HDR.out] at hc0 h9 h8 ⊢
      have hkeep : ∀ k, k ≠ B → k < W2.heap.size → (W2.drew.setCell ⟨B, 0, none⟩ (.int .u16 ((hasS mu L : Nat) : Int))).heap[k]? = W2.heap[k]? := fun k hk _ => heap_setCell_other W2.drew ⟨B, 0, none⟩ k _ hk
      have HE := Lib.hid (And.intro h8 (And.intro h9 hkeep))
      clear h8 h9 hkeep
      generalize W2.drew.setCell ⟨B, 0, none⟩ (.int .u16 ((hasS mu L : Nat) : Int)) = W3 at *
      cases hz : anyB (16 ^ (L + 2)) mu with
      | false =>
        have hz0 : ((hasS mu L : Nat) : Int) = 0 := by rw [HK2.out.2.2.1.2 hz]; rfl
        rw [hz0] at hc0
        clear hz0
        go_wp2
        go_ret
        exact ⟨_, rfl, HE.out.1.below_of HE.out.2.1, NodeOk.mk_nil hz⟩
      | true =>
        have hz0 : (((hasS mu L : Nat) : Int) == 0) = false := by
          have : hasS mu L ≠ 0 := fun h => by rw [HK2.out.2.2.1.1 h] at hz; cases hz
          simp; omega
        go_wp2
        go_ret
        have hbw := HE.out.1.below_of HE.out.2.1
        exact ⟨_, rfl, hbw, .inr ⟨B, kids.set sl (.pointer none), rfl, hz, by rw [List.length_set]; exact HK.out.1.1, HE.out.2.1.block, HKIDS.out W3 hbw HE.out.2.2, HOK.out.1 B hB⟩⟩


theorem clear_any (L : Nat) (hL : L ≤ 2) (b : Nat) (hb : b < 4096) : ∀ (ok : Nat → Prop) (v : Value) (m : MapM) (w : World), NodeOk TNode ok w L v m → m (b % 16 ^ (L + 1)) ≠ none → (∀ k, w.heap.size ≤ k → ok k) →
      Calls Tryz.prog 93 #[v, .int .i64 (L : Int), .int .i64 (b : Int)] w fun e w' => ∃ v', e = .returned v' ∧ Hid (Below w.heap.size w w' ∧ NodeOk TNode ok w' L v' (upd m (b % 16 ^ (L + 1)) none)) := by
  induction L with
  | zero => intro ok v m w hn hmb hok; exact clear0_any ok v m b hb w hn hmb hok
  | succ L ih => intro ok v m w hn hmb hok; exact clearS_any ok L hL b hb (ih (by omega)) v m w hn hmb hok

set_option maxHeartbeats 2000000 in
theorem tclear_any (ok : Nat → Prop) (r : Value) (m : MapM) (b : Nat) (hb : b < 4096) (w : World) (hr : NodeOk TNode ok w 2 r m) (hok : ∀ k, w.heap.size ≤ k → ok k) :
    Calls Tryz.prog 64 #[.agg #[r, .int .i64 (cnt m : Int)], .int .i64 (b : Int)] w (TSetOut ok w (upd m b none)) := by
  obtain ⟨q, rfl⟩ := NodeOk.ptr hr
  have hcn := cnt_le m
  have HR := Lib.hid (And.intro hr hok)
  have H1 := Lib.hid (And.intro (((Same.refl w).alloc (.cells #[.pointer q, .int .i64 (cnt m : Int)] TTree)).alloc (.cells #[.pointer none, .int .i64 0] TTree)) (((Sat.old w).alloc (.cells #[.pointer q, .int .i64 (cnt m : Int)] TTree)).alloc (.cells #[.pointer none, .int .i64 0] TTree)))
  rw [World.size_alloc] at H1
  clear hr hok
  go_enter Tryz.func64, Tryz.ntmps64
  go_upto_region 2 with (go_at_call 81; refine (tget_any _ _ m b hb _ (HR.out.1.at.below (H1.out.1.below_of (H1.out.2.perm (star_assoc _ _ _).symm)))).mono ?_; rintro e w1 ⟨rfl, h2⟩; replace H1 := Lib.hid (And.intro (H1.out.1.below h2) (H1.out.2.below h2)); clear h2)
  generalize hB6 : w.heap.size + 1 = B6 at H1 ⊢
  generalize hB3 : w.heap.size = B3 at H1 ⊢
  have HB := Lib.hid (show w.heap.size ≤ B6 by omega)
  clear hB6 hB3
  obtain ⟨x0, x1, xf0, xf1, xl⟩ := tree_cells H1.out.2
  obtain ⟨y0, y1, yf0, yf1, yl⟩ := tree_cells H1.out.2.right
  cases hmb : m b with
  | none =>
    have HM := Lib.hid (upd_self hmb)
    clear hmb
    go_wp2
    have h9 := (H1.out.2.setCell (i := 0) (.pointer q)).setCell (i := 1) (.int .i64 (cnt m : Int))
    have h8 := (H1.out.1.setCell ⟨B6, 0, none⟩ (.pointer q)).setCell ⟨B6, 1, none⟩ (.int .i64 (cnt m : Int))
    have hbw := h8.below_of (h9.perm (star_assoc _ _ _).symm)
    refine bodyPost_ret (v := .agg #[.pointer q, .int .i64 (cnt m : Int)]) (results_cell_row Tryz.results64 _ _ B6 TTree #[.pointer q, .int .i64 (cnt m : Int)] (0, 0) _ rfl h9.block Tryz.underlying80 rfl info_tree) rfl ?_
    rw [HM.out]
    exact TSetOut.mk q hbw (HR.out.1.below hbw)
  | some x =>
    have hcs := cnt_clear (m := m) hb (by rw [hmb]; rfl)
    have hne : m b ≠ none := by rw [hmb]; simp
    have HCS := Lib.hid (And.intro hcs hne)
    have hc1 : (1 : Int) ≤ (cnt m : Int) := by omega
    clear hmb hcs hne
    go_upto_region 4 with (fail)
    have hS0 : w1.drew.cell? ⟨B3, 0, none⟩ = some (.pointer q) ∧ w1.drew.cell? ⟨B3, 1, none⟩ = some (.int .i64 (cnt m : Int)) := ⟨y0, y1⟩
    have hbw1 := H1.out.1.drew.below_of (H1.out.2.drew.perm (star_assoc _ _ _).symm)
    have hcl := clear_any 2 (by omega) b hb (fun k => ok k ∧ k ≠ B6) (.pointer q) m w1.drew ((NodeOk.weaken (ok' := fun k => ok k ∧ k ≠ B6) (fun k h1 hk => ⟨h1, by have := HB.out; omega⟩) HR.out.1).below hbw1) (by rw [Nat.mod_eq_of_lt (show b < 16 ^ (2 + 1) by omega)]; exact HCS.out.2) (fun k hk => ⟨HR.out.2 k (by have : w1.heap.size ≤ k := hk; have := hbw1.size; have : w.heap.size ≤ w1.heap.size := this; omega), by have : w1.heap.size ≤ k := hk; omega⟩)
    rw [Nat.mod_eq_of_lt (show b < 16 ^ (2 + 1) by omega)] at hcl
    refine reg_begin (fun w' => w'.cell? ⟨B3, 0, none⟩ = some (.pointer q) ∧ w'.cell? ⟨B3, 1, none⟩ = some (.int .i64 (cnt m : Int))) (by kernel_rfl) ?_
    (apply reg_take 0 rfl rfl (by decide +kernel) rfl); (rintro w' ⟨h1, h2⟩; go_simp; rfl); exact hS0; simp only [List.setIfInBounds_toArray, List.set_cons_succ, List.set_cons_zero]
    (apply reg_take 1 rfl rfl (by decide +kernel) rfl); (rintro w' ⟨h1, h2⟩; go_simp; rfl); exact hS0; simp only [List.setIfInBounds_toArray, List.set_cons_succ, List.set_cons_zero]
    (apply reg_take 2 rfl rfl (by decide +kernel) rfl); (rintro w' ⟨h1, h2⟩; go_simp; rfl); exact hS0; simp only [List.setIfInBounds_toArray, List.set_cons_succ, List.set_cons_zero]
    (apply reg_take 4 rfl rfl (by decide +kernel) rfl); (rintro w' ⟨h1, h2⟩; go_simp; rfl); exact hS0; simp only [List.setIfInBounds_toArray, List.set_cons_succ, List.set_cons_zero]
    (apply reg_take 5 rfl rfl (by decide +kernel) rfl); (rintro w' ⟨h1, h2⟩; go_simp; rfl); exact hS0; simp only [List.setIfInBounds_toArray, List.set_cons_succ, List.set_cons_zero]
    (apply reg_take 6 rfl rfl (by decide +kernel) rfl); (rintro w' ⟨h1, h2⟩; go_simp; rfl); exact hS0; simp only [List.setIfInBounds_toArray, List.set_cons_succ, List.set_cons_zero]
    refine reg_call 3 rfl rfl (by decide +kernel) rfl (f := 93) (args := #[.pointer q, .int .i64 2, .int .i64 (b : Int)]) (R := fun v w' => ∃ q1 : Option Addr, v = .pointer q1 ∧ Hid (Below w1.heap.size w1 w' ∧ NodeOk TNode (fun k => ok k ∧ k ≠ B6) w' 2 (.pointer q1) (upd m b none))) (by kernel_rfl)
      (hcl.mono fun e w' h => by
        obtain ⟨v', rfl, h1, h2⟩ := h
        obtain ⟨q1, rfl⟩ := NodeOk.ptr h2
        exact ⟨_, rfl, q1, rfl, ((Below.refl _ w1).drew).trans h1, h2⟩) ?_
    rintro _ w3 ⟨q1, rfl, h3⟩
    have hs3 := H1.out.2.below h3.out.1
    have hm3 := H1.out.1.below h3.out.1
    obtain ⟨y0', y1', _, _, _⟩ := tree_cells hs3.right
    have hS3 : w3.cell? ⟨B3, 0, none⟩ = some (.pointer q) ∧ w3.cell? ⟨B3, 1, none⟩ = some (.int .i64 (cnt m : Int)) := ⟨y0', y1'⟩
    refine ⟨hS3, ?_⟩
    simp only [List.setIfInBounds_toArray, List.set_cons_succ, List.set_cons_zero]
    (apply reg_take 7 rfl rfl (by decide +kernel) rfl); (rintro w' ⟨h1, h2⟩; go_simp; rfl); exact hS3; simp only [List.setIfInBounds_toArray, List.set_cons_succ, List.set_cons_zero]
    have hwr : IntKind.i64.wrap ((cnt m : Int) - 1) = ((cnt (upd m b none) : Nat) : Int) := by
      have := HCS.out.1
      rw [IntWalk.i64_in _ (by omega)]; omega
    rw [hwr]
    clear y0' y1' x0 x1 xf0 xf1 xl y0 y1 yf0 yf1 yl
    obtain ⟨x0, x1, xf0, xf1, xl⟩ := tree_cells hs3
    refine reg_do_last 8 ((w3.setCell ⟨B6, 0, none⟩ (.pointer q1)).setCell ⟨B6, 1, none⟩ (.int .i64 ((cnt (upd m b none) : Nat) : Int))) rfl rfl (by decide +kernel) rfl (by clear hwr; go_simp) ?_
    have h9 := (hs3.setCell (i := 0) (.pointer q1)).setCell (i := 1) (.int .i64 ((cnt (upd m b none) : Nat) : Int))
    have h8 := (hm3.setCell ⟨B6, 0, none⟩ (.pointer q1)).setCell ⟨B6, 1, none⟩ (.int .i64 ((cnt (upd m b none) : Nat) : Int))
    have hbw := h8.below_of (h9.perm (star_assoc _ _ _).symm)
    go_wp2
    refine bodyPost_ret (v := .agg #[.pointer q1, .int .i64 ((cnt (upd m b none) : Nat) : Int)]) (results_cell_row Tryz.results64 _ _ B6 TTree #[.pointer q1, .int .i64 ((cnt (upd m b none) : Nat) : Int)] (0, 0) _ rfl h9.block Tryz.underlying80 rfl info_tree) rfl ?_
    refine TSetOut.mk q1 hbw (NodeOk.weaken (fun k hk _ => hk.1) (NodeOk.keep (fun k hk _ => ?_) h3.out.2))
    rw [heap_setCell_other _ ⟨B6, 1, none⟩ _ _ hk.2, heap_setCell_other _ ⟨B6, 0, none⟩ _ _ hk.2]

end Go.Proofs.YtednjhlkhecihaaGreatDoor
