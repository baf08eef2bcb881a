/- tree.differ: how it is asked, level 0. Printed by ec.py. -/
import Derived.RangeFuncKeeps
import Derived.RangeFuncBound
import Derived.RangeFuncLeaves
import Derived.Shelf.Abstract
import Derived.WalkKit
import Derived.OwnWalkIn
import Derived.TacticsInMore
import Derived.LoopNIn
import Derived.LoopIn
import Derived.Sort.CutIn
import Derived.LaidEqlPtr
import Derived.Test.YtednjhlkhecihaaGreatDoorVw
import Derived.Test.YtednjhlkhecihaaGreatDoorRi
import Derived.Test.YtednjhlkhecihaaGreatDoorEb
namespace Go.Proofs.YtednjhlkhecihaaGreatDoor
open Go.RowKit Go.Vol Go.Shelf Go.Sl
attribute [local go_sem] Oper.semAt_some

theorem info_pnode : (Tryz.prog.info? TNode).map (·.size) = some 33 := by kernel_rfl
theorem eql_same (a : Addr) (w : World) : (binOp .eql 78 (.pointer (some a)) (.pointer (some a))).run Tryz.prog w = .ok (.bool true) w := by
  obtain ⟨j, hj, -⟩ := Option.map_eq_some_iff.1 info_pnode
  exact run_eql_ptr_same w a Tryz.underlying78 hj
theorem eql_other {a b : Nat} {ca cb : Array Value} {w : World} (hne : a ≠ b) (ha : w.heap[a]? = some (.cells ca TNode (0, 0))) (hb : w.heap[b]? = some (.cells cb TNode (0, 0))) :
    (binOp .eql 78 (.pointer (some ⟨a, 0, none⟩)) (.pointer (some ⟨b, 0, none⟩))).run Tryz.prog w = .ok (.bool false) w := by
  obtain ⟨j, hj, hs⟩ := Option.map_eq_some_iff.1 info_pnode
  exact run_eql_ptr_other w Tryz.underlying78 hj (by rw [hs]; decide) (fun e => hne (congrArg Addr.block e)) ha hb
theorem eql_nil_some (a : Addr) (w : World) : (binOp .eql 78 (.pointer none) (.pointer (some a))).run Tryz.prog w = .ok (.bool false) w := by
  have h : ∀ d : Nat, (Op.equalIn (d + 1) 78 (.pointer none) (.pointer (some a))).run Tryz.prog w = .ok false w := fun d => by
    simp [Op.equalIn, run_underlying Tryz.underlying78]
  simp only [binOp]
  simp [Op.equal, Op.maxDepth, h 9999]
def Grows (J : List (Nat × Int) → World → Prop) : Prop := ∀ s W W', J s W → W.grownBy W' none → J s W'
/-- What a round is asked. -/
def DAsks (F : Fence) (l n₀ N : Nat) (J Jx : List (Nat × Int) → World → Prop) : Prop :=
  ∀ m pre (x : Nat × Int) W, J pre W → pre.length < N → YieldAt F m Tryz.prog l #[.int .i64 (x.1 : Int)] W fun e W' =>
      (e = .returned (.bool true) ∧ J (pre ++ [x]) W' ∧ KeepT TNode n₀ W W') ∨ (e = .returned (.bool false) ∧ Jx (pre ++ [x]) W')
/-- What a walk of two nodes answers. -/
def DWalks (F : Fence) (l n₀ N : Nat) (J Jx : List (Nat × Int) → World → Prop) (L : Nat) : Prop :=
  ∀ (n : Nat) (va vb : Value) (ma mb : MapM) (first : Nat) (pre : List (Nat × Int)) (W : World), NodeOk TNode (· < n₀) W L va ma → NodeOk TNode (· < n₀) W L vb mb → TabW W → first + 16 ^ (L + 1) ≤ 4096 → n₀ ≤ W.heap.size → J pre W →
    pre.length + (itemsF (16 ^ (L + 1)) first (dm ma mb)).length ≤ N →
    CallsIn F n Tryz.prog 99 #[va, vb, .int .i64 (L : Int), .int .i64 (first : Int), .func (.yield l) #[] #[]] W fun e W' =>
      (e = .returned (.bool true) ∧ J (pre ++ itemsF (16 ^ (L + 1)) first (dm ma mb)) W' ∧ KeepT TNode n₀ W W') ∨ (e = .returned (.bool false) ∧ ∃ q, q <+: itemsF (16 ^ (L + 1)) first (dm ma mb) ∧ Jx (pre ++ q) W')
/-- Between two rounds of the loop of differ: the slots below j are over. -/
structure DiffSt (n₀ : Nat) (J : List (Nat × Int) → World → Prop) (q first h : Nat) (d : MapM) (pre : List (Nat × Int)) (W : World) (v : Value) (wr : World) : Prop where
  st : ∃ j both : Nat, j ≤ 16 ∧ BitsFrom h j both ∧ v = .int .u16 (both : Int) ∧ J (pre ++ itemsF (j * q) first d) wr ∧ KeepT TNode n₀ W wr
theorem anyB_dm {n : Nat} {m m' : MapM} (h : anyB n m = false) (h' : anyB n m' = false) : anyB n (dm m m') = false :=
  anyB_false.2 fun i hi => dm_none (by rw [anyB_false.1 h i hi, anyB_false.1 h' i hi])
theorem itemsF_skipS {m : MapM} {first L a : Nat} : ∀ d, (∀ i, a ≤ i → i < a + d → anyB (16 ^ (L + 1)) (sub m L i) = false) → itemsF ((a + d) * 16 ^ (L + 1)) first m = itemsF (a * 16 ^ (L + 1)) first m
  | 0, _ => rfl
  | d + 1, h => by rw [← Nat.add_assoc, itemsF_sub_none first (h (a + d) (by omega) (by omega)), itemsF_skipS d fun i h1 h2 => h i h1 (by omega)]

set_option maxRecDepth 100000 in
set_option maxHeartbeats 4000000 in
theorem diff0_in (F : Fence) (hF : Free F Tryz.prog) (l n₀ N : Nat) (J Jx : List (Nat × Int) → World → Prop) (hG : Grows J) (hn0 : 0 < n₀) (hY : DAsks F l n₀ N J Jx) : DWalks F l n₀ N J Jx 0 := by
  intro n va vb ma mb first pre W hna hnb hT hfi hsz hJ hN
  have hro := hF.round
  have hfn := hF.fn
  have hf := hF.fn 99
  have hdd : ∀ k : Nat, (F.depth.isSome = true → 1 ≤ k) := fun k h => by rw [hF.depth] at h; cases h
  have hQ : (16 : Nat) ^ (0 + 1) = 16 := by decide
  rw [hQ] at hfi hN
  obtain ⟨qa, rfl⟩ := NodeOk.ptr hna
  obtain ⟨qb, rfl⟩ := NodeOk.ptr hnb
  refine callsIn_of_wp Tryz.func99 rfl hf ?_ hro
  simp only [Tryz.ntmps99, List.size_toArray, List.length_cons, List.length_nil, Nat.reduceAdd, Nat.reduceSub, Array.replicate_succ, Array.replicate_zero, List.push_toArray, List.append_toArray, List.nil_append, List.cons_append]
  by_cases hab : qa = qb
  · subst hab
    have hnil : itemsF 16 first (dm ma mb) = [] := itemsF_nil first _ fun i hi => dm_none (NodeOk.inj hna hnb i (by rw [hQ]; exact hi))
    have HX := Lib.hid hnil
    clear hnil hdd hna hnb hT hY hQ
    cases qa with
    | none =>
      gi_wp2
      go_ret
      refine .inl ⟨rfl, ?_, KeepT.refl _ _ _⟩
      rw [HX.out, List.append_nil]; exact hJ
    | some ad =>
      have heq := eql_same ad W
      gi_wp2
      go_ret
      refine .inl ⟨rfl, ?_, KeepT.refl _ _ _⟩
      rw [HX.out, List.append_nil]; exact hJ
  · clear hQ
    cases qa with
    | none =>
      cases qb with
      | none => exact absurd rfl hab
      | some ab =>
        obtain ⟨bb, rfl, -, -, -⟩ := NodeOk.block hnb
        have heq := eql_nil_some ⟨bb, 0, none⟩ W
        obtain ⟨ba, hbz⟩ : ∃ b, b = W.heap.size := ⟨_, rfl⟩
        obtain ⟨W1, hW1⟩ : ∃ W1, W1 = W.alloc (.cells (nodeC 0 nils zers) TNode) := ⟨_, rfl⟩
        have hK1 : KeepT TNode n₀ W W1 := by rw [hW1]; exact (KeepT.refl _ _ W).alloc hsz _
        have hJ1 : J pre W1 := by rw [hW1]; exact hG _ _ _ hJ (World.grownBy_alloc W _ none)
        have hT1 : TabW W1 := hT.keep (hK1.bel.block 0 hn0)
        have hA1 : NodeV TNode (· < n₀) W1 0 ba ma := NodeV.none (by rw [hW1, hbz]; exact World.alloc_heap_new W _) (NodeOk.nil hna)
        have hB1 := NodeV.keep hK1 (NodeV.of hnb)
        have hs1 : n₀ ≤ W1.heap.size := Nat.le_trans hsz hK1.bel.size
        have HP := Lib.hid (And.intro hW1 (And.intro hK1 (And.intro hJ1 (And.intro hT1 (And.intro hA1 (And.intro hB1 (And.intro hs1 hbz)))))))
        have HYY := Lib.hid hY
        have HNN := Lib.hid hN
        have hor := u16_or_nat (has0 ma) (has0 mb) (has0_lt ma) (has0_lt mb)
        clear hna hnb hT hab hJ hY hN hW1 hK1 hJ1 hT1 hA1 hB1 hs1 hbz
        gi_wp2
        obtain ⟨hW1, hK1, hJ1, hT1, hA1, hB1, hs1, hbz⟩ := HP.out
        change Code.wpIn F n Tryz.prog _ _ _ (W.alloc (.cells (nodeC 0 nils zers) TNode))
        rw [← hW1, ← hbz]
        clear hW1 HP hbz
        obtain ⟨a0, -, -⟩ := nodeC_at hA1 rfl
        obtain ⟨b0, -, -⟩ := nodeC_at hB1 rfl
        have hS : W1.drew.cell? ⟨ba, 0, none⟩ = some (.int .u16 ((has0 ma) : Int)) ∧ W1.drew.cell? ⟨bb, 0, none⟩ = some (.int .u16 ((has0 mb) : Int)) := ⟨a0, b0⟩
        refine regi_begin (fun w' => w'.cell? ⟨ba, 0, none⟩ = some (.int .u16 ((has0 ma) : Int)) ∧ w'.cell? ⟨bb, 0, none⟩ = some (.int .u16 ((has0 mb) : Int))) (by kernel_rfl) ?_
        (apply regi_take hF 0 rfl rfl (by decide +kernel) rfl); (rintro w' ⟨h1, h2⟩; go_simp; rfl); exact hS; simp only [List.setIfInBounds_toArray, List.set_cons_succ, List.set_cons_zero]
        (apply regi_take hF 1 rfl rfl (by decide +kernel) rfl); (rintro w' ⟨h1, h2⟩; go_simp; rfl); exact hS; simp only [List.setIfInBounds_toArray, List.set_cons_succ, List.set_cons_zero]
        (apply regi_take hF 2 rfl rfl (by decide +kernel) rfl); (rintro w' ⟨h1, h2⟩; go_simp; rfl); exact hS; simp only [List.setIfInBounds_toArray, List.set_cons_succ, List.set_cons_zero]
        (apply regi_take hF 3 rfl rfl (by decide +kernel) rfl); (rintro w' ⟨h1, h2⟩; go_simp; rfl); exact hS; simp only [List.setIfInBounds_toArray, List.set_cons_succ, List.set_cons_zero]
        (apply regi_take hF 4 rfl rfl (by decide +kernel) rfl); (rintro w' ⟨h1, h2⟩; go_simp; rfl); exact hS; simp only [List.setIfInBounds_toArray, List.set_cons_succ, List.set_cons_zero]
        (apply regi_take hF 5 rfl rfl (by decide +kernel) rfl); (rintro w' ⟨h1, h2⟩; go_simp; rfl); exact hS; simp only [List.setIfInBounds_toArray, List.set_cons_succ, List.set_cons_zero]
        (apply regi_take hF 6 rfl rfl (by decide +kernel) rfl); (rintro w' ⟨h1, h2⟩; go_simp; rfl); exact hS; simp only [List.setIfInBounds_toArray, List.set_cons_succ, List.set_cons_zero]
        (apply regi_take hF 7 rfl rfl (by decide +kernel) rfl); (rintro w' ⟨h1, h2⟩; go_simp; rfl); exact hS; simp only [List.setIfInBounds_toArray, List.set_cons_succ, List.set_cons_zero]
        (apply regi_take hF 8 rfl rfl (by decide +kernel) rfl); (rintro w' ⟨h1, h2⟩; go_simp; rfl); exact hS; simp only [List.setIfInBounds_toArray, List.set_cons_succ, List.set_cons_zero]
        (apply regi_take hF 9 rfl rfl (by decide +kernel) rfl); (rintro w' ⟨h1, h2⟩; go_simp; rfl); exact hS; simp only [List.setIfInBounds_toArray, List.set_cons_succ, List.set_cons_zero]
        refine regi_done (by decide +kernel) ?_
        clear hS a0 b0
        have hK2 : KeepT TNode n₀ W W1.drew := hK1.trans (KeepT.drew _ _ _)
        have hJ2 : J pre W1.drew := hG _ _ _ hJ1 ⟨rfl, rfl, rfl, Nat.le_refl _, fun _ _ _ => rfl⟩
        have hT2 : TabW W1.drew := hT1
        have hA2 : NodeV TNode (· < n₀) W1.drew 0 ba ma := NodeV.keep (KeepT.drew _ _ _) hA1
        have hB2 : NodeV TNode (· < n₀) W1.drew 0 bb mb := NodeV.keep (KeepT.drew _ _ _) hB1
        have hs2 : n₀ ≤ W1.drew.heap.size := hs1
        clear hK1 hJ1 hT1 hA1 hB1 hs1
        generalize W1.drew = W2 at *
        have hst : DiffSt n₀ J 1 first ((has0 ma) ||| (has0 mb)) (dm ma mb) pre W2 (.int .u16 (((has0 ma) ||| (has0 mb) : Nat) : Int)) W2 := ⟨⟨0, _, by omega, BitsFrom.start (Nat.or_lt_two_pow (n := 16) (has0_lt ma) (has0_lt mb)), rfl, by rw [Nat.zero_mul, itemsF_zero, List.append_nil]; exact hJ2, KeepT.refl _ _ _⟩⟩
        have HP := Lib.hid (And.intro hK2 (And.intro hT2 (And.intro hA2 (And.intro hB2 hs2))))
        have HST := Lib.hid hst
        clear hK2 hT2 hA2 hB2 hs2 hJ2 hst hor
        gi_wp2
        gi_loopw [12, 13, 14, 45, 66] (fun v _ _ _ _ wr => DiffSt n₀ J 1 first ((has0 ma) ||| (has0 mb)) (dm ma mb) pre W2 v wr) (fun v _ _ _ _ _ => (intOf v).toNat)
        case atStart => exact HST.out
        case round =>
          clear HST
          obtain ⟨j, both, hj, hbf, rfl, hJs, hkw⟩ := hrel.st
          clear hrel
          by_cases hb0 : both = 0
          · subst hb0
            have hz := hbf.zero
            have hx : itemsF 16 first (dm ma mb) = itemsF (j * 1) first (dm ma mb) := by
              rw [Nat.mul_one, show 16 = j + (16 - j) by omega]
              refine itemsF_skip _ fun i h1 h2 => dm_none ?_
              have h3 := hz i h1
              rw [Nat.testBit_or, has0_bit ma (by omega), has0_bit mb (by omega)] at h3
              revert h3
              cases ma i <;> cases mb i <;> simp
            have HX := Lib.hid hx
            have hdone := HP.out.1.trans hkw
            clear hz hx hbf
            gi_wp2
            go_ret
            exact .inl ⟨rfl, by rw [HX.out]; exact hJs, hdone⟩
          · have htz := tz16_any both hb0 hbf.lt wr (HP.out.2.1.keep (hkw.bel.block 0 hn0))
            obtain ⟨hjk, hk16, hbk, hskip, hnext⟩ := hbf.next hb0
            have hA3 := NodeV.keep hkw HP.out.2.2.1
            have hB3 := NodeV.keep hkw HP.out.2.2.2.1
            have hbl := hbf.lt
            generalize Lib.ctz 16 both = k at *
            have hand := u16_and_nat both (both - 1) hbl (by omega)
            have hsub : ((both - 1 : Nat) : Int) = (both : Int) - 1 := by omega
            rw [hsub] at hand
            have hxk : itemsF (k * 1) first (dm ma mb) = itemsF (j * 1) first (dm ma mb) := by
              rw [Nat.mul_one, Nat.mul_one, show k = j + (k - j) by omega]
              refine itemsF_skip _ fun i h1 h2 => dm_none ?_
              have h3 := hskip i h1 (by omega)
              rw [Nat.testBit_or, has0_bit ma (by omega), has0_bit mb (by omega)] at h3
              revert h3
              cases ma i <;> cases mb i <;> simp
            rw [← hxk] at hJs
            have HXK := Lib.hid hxk
            have HTZ := Lib.hid htz
            have HN := Lib.hid hnext
            have hki : (k : Int) < 16 := by omega
            have hbi : ((both : Int) == 0) = false := by simpa using hb0
            have hb1 : (1 : Int) ≤ (both : Int) := by omega
            obtain ⟨a0, -, a2⟩ := nodeC_at hA3 rfl
            obtain ⟨b0, -, b2⟩ := nodeC_at hB3 rfl
            have a17 := a2 k _ (chs_at ma hk16)
            have b17 := b2 k _ (chs_at mb hk16)
            have hxor := u16_xor_nat (has0 ma) (has0 mb) (has0_lt ma) (has0_lt mb)
            have hbit := bit1 (has0 ma ^^^ has0 mb) k (Nat.xor_lt_two_pow (n := 16) (has0_lt ma) (has0_lt mb))
            rw [Nat.testBit_xor, has0_bit ma hk16, has0_bit mb hk16] at hbit
            rw [Nat.testBit_or, has0_bit ma hk16, has0_bit mb hk16] at hbk
            generalize has0 ma = hsa at *
            generalize has0 mb = hsb at *
            clear hskip hnext hbf htz hsub a2 b2 hA3 hB3 hxk
            gi_upto_region 16 with (first | ((try refine ⟨hdd _, ?_⟩); gi_at_call 105; refine (hF.calls _ _ _ _ _ HTZ.out).mono ?_; rintro e w' ⟨rfl, rfl⟩))
            cases hma : ma k with
            | none => cases hmb : mb k with
              | none => rw [hma, hmb] at hbk; cases hbk
              | some xb =>
                have HDM := Lib.hid (dm_some (m := ma) (m' := mb) (i := k) (by rw [hma, hmb]; simp))
                rw [hma, hmb] at hbit
                have hbit2 : bits .and .u16 (((hsa ^^^ hsb : Nat) : Int) / 2 ^ k) 1 = 1 := hbit
                have hS : w'.drew.cell? ⟨ba, 0, none⟩ = some (.int .u16 (hsa : Int)) ∧ w'.drew.cell? ⟨bb, 0, none⟩ = some (.int .u16 (hsb : Int)) := ⟨a0, b0⟩
                refine regi_begin (fun w' => w'.cell? ⟨ba, 0, none⟩ = some (.int .u16 (hsa : Int)) ∧ w'.cell? ⟨bb, 0, none⟩ = some (.int .u16 (hsb : Int))) (by kernel_rfl) ?_
                (apply regi_take hF 0 rfl rfl (by decide +kernel) rfl); (rintro w' ⟨h1, h2⟩; go_simp; rfl); exact hS; simp only [List.setIfInBounds_toArray, List.set_cons_succ, List.set_cons_zero]
                (apply regi_take hF 1 rfl rfl (by decide +kernel) rfl); (rintro w' ⟨h1, h2⟩; go_simp; rfl); exact hS; simp only [List.setIfInBounds_toArray, List.set_cons_succ, List.set_cons_zero]
                (apply regi_take hF 2 rfl rfl (by decide +kernel) rfl); (rintro w' ⟨h1, h2⟩; go_simp; rfl); exact hS; simp only [List.setIfInBounds_toArray, List.set_cons_succ, List.set_cons_zero]
                (apply regi_take hF 3 rfl rfl (by decide +kernel) rfl); (rintro w' ⟨h1, h2⟩; go_simp; rfl); exact hS; simp only [List.setIfInBounds_toArray, List.set_cons_succ, List.set_cons_zero]
                (apply regi_take hF 4 rfl rfl (by decide +kernel) rfl); (rintro w' ⟨h1, h2⟩; go_simp; rfl); exact hS; simp only [List.setIfInBounds_toArray, List.set_cons_succ, List.set_cons_zero]
                (apply regi_take hF 5 rfl rfl (by decide +kernel) rfl); (rintro w' ⟨h1, h2⟩; go_simp; rfl); exact hS; simp only [List.setIfInBounds_toArray, List.set_cons_succ, List.set_cons_zero]
                (apply regi_take hF 6 rfl rfl (by decide +kernel) rfl); (rintro w' ⟨h1, h2⟩; go_simp; rfl); exact hS; simp only [List.setIfInBounds_toArray, List.set_cons_succ, List.set_cons_zero]
                (apply regi_take hF 7 rfl rfl (by decide +kernel) rfl); (rintro w' ⟨h1, h2⟩; go_simp; rfl); exact hS; simp only [List.setIfInBounds_toArray, List.set_cons_succ, List.set_cons_zero]
                (apply regi_take hF 8 rfl rfl (by decide +kernel) rfl); (rintro w' ⟨h1, h2⟩; go_simp; rfl); exact hS; simp only [List.setIfInBounds_toArray, List.set_cons_succ, List.set_cons_zero]
                (apply regi_take hF 9 rfl rfl (by decide +kernel) rfl); (rintro w' ⟨h1, h2⟩; go_simp; rfl); exact hS; simp only [List.setIfInBounds_toArray, List.set_cons_succ, List.set_cons_zero]
                (apply regi_take hF 10 rfl rfl (by decide +kernel) rfl); (rintro w' ⟨h1, h2⟩; go_simp; rfl); exact hS; simp only [List.setIfInBounds_toArray, List.set_cons_succ, List.set_cons_zero]
                (apply regi_take hF 11 rfl rfl (by decide +kernel) rfl); (rintro w' ⟨h1, h2⟩; go_simp; rfl); exact hS; simp only [List.setIfInBounds_toArray, List.set_cons_succ, List.set_cons_zero]
                (apply regi_take hF 12 rfl rfl (by decide +kernel) rfl); (rintro w' ⟨h1, h2⟩; go_simp; rfl); exact hS; simp only [List.setIfInBounds_toArray, List.set_cons_succ, List.set_cons_zero]
                (apply regi_take hF 13 rfl rfl (by decide +kernel) rfl); (rintro w' ⟨h1, h2⟩; go_simp; rfl); exact hS; simp only [List.setIfInBounds_toArray, List.set_cons_succ, List.set_cons_zero]
                refine regi_skip hF 14 rfl rfl (by decide +kernel) rfl hS ?_; simp only [List.setIfInBounds_toArray, List.set_cons_succ, List.set_cons_zero]
                refine regi_skip hF 15 rfl rfl (by decide +kernel) rfl hS ?_; simp only [List.setIfInBounds_toArray, List.set_cons_succ, List.set_cons_zero]
                refine regi_skip hF 16 rfl rfl (by decide +kernel) rfl hS ?_; simp only [List.setIfInBounds_toArray, List.set_cons_succ, List.set_cons_zero]
                refine regi_skip hF 17 rfl rfl (by decide +kernel) rfl hS ?_; simp only [List.setIfInBounds_toArray, List.set_cons_succ, List.set_cons_zero]
                refine regi_skip hF 18 rfl rfl (by decide +kernel) rfl hS ?_; simp only [List.setIfInBounds_toArray, List.set_cons_succ, List.set_cons_zero]
                refine regi_skip hF 19 rfl rfl (by decide +kernel) rfl hS ?_; simp only [List.setIfInBounds_toArray, List.set_cons_succ, List.set_cons_zero]
                refine regi_skip hF 20 rfl rfl (by decide +kernel) rfl hS ?_; simp only [List.setIfInBounds_toArray, List.set_cons_succ, List.set_cons_zero]
                refine regi_skip hF 21 rfl rfl (by decide +kernel) rfl hS ?_; simp only [List.setIfInBounds_toArray, List.set_cons_succ, List.set_cons_zero]
                refine regi_skip hF 22 rfl rfl (by decide +kernel) rfl hS ?_; simp only [List.setIfInBounds_toArray, List.set_cons_succ, List.set_cons_zero]
                refine regi_skip hF 23 rfl rfl (by decide +kernel) rfl hS ?_; simp only [List.setIfInBounds_toArray, List.set_cons_succ, List.set_cons_zero]
                refine regi_skip hF 24 rfl rfl (by decide +kernel) rfl hS ?_; simp only [List.setIfInBounds_toArray, List.set_cons_succ, List.set_cons_zero]
                refine regi_skip hF 25 rfl rfl (by decide +kernel) rfl hS ?_; simp only [List.setIfInBounds_toArray, List.set_cons_succ, List.set_cons_zero]
                refine regi_skip hF 26 rfl rfl (by decide +kernel) rfl hS ?_; simp only [List.setIfInBounds_toArray, List.set_cons_succ, List.set_cons_zero]
                (apply regi_take hF 27 rfl rfl (by decide +kernel) rfl); (rintro w' ⟨h1, h2⟩; go_simp; rfl); exact hS; simp only [List.setIfInBounds_toArray, List.set_cons_succ, List.set_cons_zero]
                (apply regi_take hF 28 rfl rfl (by decide +kernel) rfl); (rintro w' ⟨h1, h2⟩; go_simp; rfl); exact hS; simp only [List.setIfInBounds_toArray, List.set_cons_succ, List.set_cons_zero]
                refine regi_done (by decide +kernel) ?_
                have hJd : J (pre ++ itemsF (k * 1) first (dm ma mb)) w'.drew := hG _ _ _ hJs ⟨rfl, rfl, rfl, Nat.le_refl _, fun _ _ _ => rfl⟩
                have hx : itemsF ((k + 1) * 1) first (dm ma mb) = itemsF (k * 1) first (dm ma mb) ++ [(first + k, 0)] := by rw [Nat.mul_one, Nat.mul_one, itemsF_some HDM.out]
                have hlen := itemsF_lenle (m := dm ma mb) (first := first) (a := (k + 1) * 1) (b := 16) (by omega)
                obtain ⟨fn, tmps, assign, body, hy, hR⟩ := HYY.out (n - 1) (pre ++ itemsF (k * 1) first (dm ma mb)) (first + k, 0) w'.drew hJd (by have := HNN.out; rw [hx] at hlen; simp at hlen ⊢; omega)
                dsimp only at hy
                rw [Int.natCast_add] at hy
                have HXS := Lib.hid hx
                have hkd : KeepT TNode n₀ W2 w'.drew := hkw.trans (KeepT.drew _ _ _)
                clear hS hbit hx hlen a0 b0 a17 b17 hJd
                gi_wp2_with ((try refine ⟨hdd _, ?_⟩); refine hR.mono ?_; clear hR; rintro e W3 (⟨rfl, hJ3, hb3⟩ | ⟨rfl, hJx3⟩))
                · refine ⟨⟨⟨k + 1, _, by omega, HN.out, rfl, by rw [HXS.out, ← List.append_assoc]; exact hJ3, hkd.trans hb3⟩⟩, ?_⟩
                  simp only [intOf]
                  have := Nat.and_le_right (n := both) (m := both - 1)
                  omega
                · go_ret
                  exact .inr ⟨rfl, itemsF (k * 1) first (dm ma mb) ++ [(first + k, 0)], by rw [← HXS.out]; exact itemsF_prefix (by omega), by rw [← List.append_assoc]; exact hJx3⟩
            | some xa => cases hmb : mb k with
              | none =>
                have HDM := Lib.hid (dm_some (m := ma) (m' := mb) (i := k) (by rw [hma, hmb]; simp))
                rw [hma, hmb] at hbit
                have hbit2 : bits .and .u16 (((hsa ^^^ hsb : Nat) : Int) / 2 ^ k) 1 = 1 := hbit
                have hS : w'.drew.cell? ⟨ba, 0, none⟩ = some (.int .u16 (hsa : Int)) ∧ w'.drew.cell? ⟨bb, 0, none⟩ = some (.int .u16 (hsb : Int)) := ⟨a0, b0⟩
                refine regi_begin (fun w' => w'.cell? ⟨ba, 0, none⟩ = some (.int .u16 (hsa : Int)) ∧ w'.cell? ⟨bb, 0, none⟩ = some (.int .u16 (hsb : Int))) (by kernel_rfl) ?_
                (apply regi_take hF 0 rfl rfl (by decide +kernel) rfl); (rintro w' ⟨h1, h2⟩; go_simp; rfl); exact hS; simp only [List.setIfInBounds_toArray, List.set_cons_succ, List.set_cons_zero]
                (apply regi_take hF 1 rfl rfl (by decide +kernel) rfl); (rintro w' ⟨h1, h2⟩; go_simp; rfl); exact hS; simp only [List.setIfInBounds_toArray, List.set_cons_succ, List.set_cons_zero]
                (apply regi_take hF 2 rfl rfl (by decide +kernel) rfl); (rintro w' ⟨h1, h2⟩; go_simp; rfl); exact hS; simp only [List.setIfInBounds_toArray, List.set_cons_succ, List.set_cons_zero]
                (apply regi_take hF 3 rfl rfl (by decide +kernel) rfl); (rintro w' ⟨h1, h2⟩; go_simp; rfl); exact hS; simp only [List.setIfInBounds_toArray, List.set_cons_succ, List.set_cons_zero]
                (apply regi_take hF 4 rfl rfl (by decide +kernel) rfl); (rintro w' ⟨h1, h2⟩; go_simp; rfl); exact hS; simp only [List.setIfInBounds_toArray, List.set_cons_succ, List.set_cons_zero]
                (apply regi_take hF 5 rfl rfl (by decide +kernel) rfl); (rintro w' ⟨h1, h2⟩; go_simp; rfl); exact hS; simp only [List.setIfInBounds_toArray, List.set_cons_succ, List.set_cons_zero]
                (apply regi_take hF 6 rfl rfl (by decide +kernel) rfl); (rintro w' ⟨h1, h2⟩; go_simp; rfl); exact hS; simp only [List.setIfInBounds_toArray, List.set_cons_succ, List.set_cons_zero]
                (apply regi_take hF 7 rfl rfl (by decide +kernel) rfl); (rintro w' ⟨h1, h2⟩; go_simp; rfl); exact hS; simp only [List.setIfInBounds_toArray, List.set_cons_succ, List.set_cons_zero]
                (apply regi_take hF 8 rfl rfl (by decide +kernel) rfl); (rintro w' ⟨h1, h2⟩; go_simp; rfl); exact hS; simp only [List.setIfInBounds_toArray, List.set_cons_succ, List.set_cons_zero]
                (apply regi_take hF 9 rfl rfl (by decide +kernel) rfl); (rintro w' ⟨h1, h2⟩; go_simp; rfl); exact hS; simp only [List.setIfInBounds_toArray, List.set_cons_succ, List.set_cons_zero]
                (apply regi_take hF 10 rfl rfl (by decide +kernel) rfl); (rintro w' ⟨h1, h2⟩; go_simp; rfl); exact hS; simp only [List.setIfInBounds_toArray, List.set_cons_succ, List.set_cons_zero]
                (apply regi_take hF 11 rfl rfl (by decide +kernel) rfl); (rintro w' ⟨h1, h2⟩; go_simp; rfl); exact hS; simp only [List.setIfInBounds_toArray, List.set_cons_succ, List.set_cons_zero]
                (apply regi_take hF 12 rfl rfl (by decide +kernel) rfl); (rintro w' ⟨h1, h2⟩; go_simp; rfl); exact hS; simp only [List.setIfInBounds_toArray, List.set_cons_succ, List.set_cons_zero]
                (apply regi_take hF 13 rfl rfl (by decide +kernel) rfl); (rintro w' ⟨h1, h2⟩; go_simp; rfl); exact hS; simp only [List.setIfInBounds_toArray, List.set_cons_succ, List.set_cons_zero]
                refine regi_skip hF 14 rfl rfl (by decide +kernel) rfl hS ?_; simp only [List.setIfInBounds_toArray, List.set_cons_succ, List.set_cons_zero]
                refine regi_skip hF 15 rfl rfl (by decide +kernel) rfl hS ?_; simp only [List.setIfInBounds_toArray, List.set_cons_succ, List.set_cons_zero]
                refine regi_skip hF 16 rfl rfl (by decide +kernel) rfl hS ?_; simp only [List.setIfInBounds_toArray, List.set_cons_succ, List.set_cons_zero]
                refine regi_skip hF 17 rfl rfl (by decide +kernel) rfl hS ?_; simp only [List.setIfInBounds_toArray, List.set_cons_succ, List.set_cons_zero]
                refine regi_skip hF 18 rfl rfl (by decide +kernel) rfl hS ?_; simp only [List.setIfInBounds_toArray, List.set_cons_succ, List.set_cons_zero]
                refine regi_skip hF 19 rfl rfl (by decide +kernel) rfl hS ?_; simp only [List.setIfInBounds_toArray, List.set_cons_succ, List.set_cons_zero]
                refine regi_skip hF 20 rfl rfl (by decide +kernel) rfl hS ?_; simp only [List.setIfInBounds_toArray, List.set_cons_succ, List.set_cons_zero]
                refine regi_skip hF 21 rfl rfl (by decide +kernel) rfl hS ?_; simp only [List.setIfInBounds_toArray, List.set_cons_succ, List.set_cons_zero]
                refine regi_skip hF 22 rfl rfl (by decide +kernel) rfl hS ?_; simp only [List.setIfInBounds_toArray, List.set_cons_succ, List.set_cons_zero]
                refine regi_skip hF 23 rfl rfl (by decide +kernel) rfl hS ?_; simp only [List.setIfInBounds_toArray, List.set_cons_succ, List.set_cons_zero]
                refine regi_skip hF 24 rfl rfl (by decide +kernel) rfl hS ?_; simp only [List.setIfInBounds_toArray, List.set_cons_succ, List.set_cons_zero]
                refine regi_skip hF 25 rfl rfl (by decide +kernel) rfl hS ?_; simp only [List.setIfInBounds_toArray, List.set_cons_succ, List.set_cons_zero]
                refine regi_skip hF 26 rfl rfl (by decide +kernel) rfl hS ?_; simp only [List.setIfInBounds_toArray, List.set_cons_succ, List.set_cons_zero]
                (apply regi_take hF 27 rfl rfl (by decide +kernel) rfl); (rintro w' ⟨h1, h2⟩; go_simp; rfl); exact hS; simp only [List.setIfInBounds_toArray, List.set_cons_succ, List.set_cons_zero]
                (apply regi_take hF 28 rfl rfl (by decide +kernel) rfl); (rintro w' ⟨h1, h2⟩; go_simp; rfl); exact hS; simp only [List.setIfInBounds_toArray, List.set_cons_succ, List.set_cons_zero]
                refine regi_done (by decide +kernel) ?_
                have hJd : J (pre ++ itemsF (k * 1) first (dm ma mb)) w'.drew := hG _ _ _ hJs ⟨rfl, rfl, rfl, Nat.le_refl _, fun _ _ _ => rfl⟩
                have hx : itemsF ((k + 1) * 1) first (dm ma mb) = itemsF (k * 1) first (dm ma mb) ++ [(first + k, 0)] := by rw [Nat.mul_one, Nat.mul_one, itemsF_some HDM.out]
                have hlen := itemsF_lenle (m := dm ma mb) (first := first) (a := (k + 1) * 1) (b := 16) (by omega)
                obtain ⟨fn, tmps, assign, body, hy, hR⟩ := HYY.out (n - 1) (pre ++ itemsF (k * 1) first (dm ma mb)) (first + k, 0) w'.drew hJd (by have := HNN.out; rw [hx] at hlen; simp at hlen ⊢; omega)
                dsimp only at hy
                rw [Int.natCast_add] at hy
                have HXS := Lib.hid hx
                have hkd : KeepT TNode n₀ W2 w'.drew := hkw.trans (KeepT.drew _ _ _)
                clear hS hbit hx hlen a0 b0 a17 b17 hJd
                gi_wp2_with ((try refine ⟨hdd _, ?_⟩); refine hR.mono ?_; clear hR; rintro e W3 (⟨rfl, hJ3, hb3⟩ | ⟨rfl, hJx3⟩))
                · refine ⟨⟨⟨k + 1, _, by omega, HN.out, rfl, by rw [HXS.out, ← List.append_assoc]; exact hJ3, hkd.trans hb3⟩⟩, ?_⟩
                  simp only [intOf]
                  have := Nat.and_le_right (n := both) (m := both - 1)
                  omega
                · go_ret
                  exact .inr ⟨rfl, itemsF (k * 1) first (dm ma mb) ++ [(first + k, 0)], by rw [← HXS.out]; exact itemsF_prefix (by omega), by rw [← List.append_assoc]; exact hJx3⟩
              | some xb =>
                rw [hma, hmb] at hbit
                rw [hma] at a17
                rw [hmb] at b17
                have hbit2 : bits .and .u16 (((hsa ^^^ hsb : Nat) : Int) / 2 ^ k) 1 = 0 := hbit
                have hS : (w'.drew.cell? ⟨ba, 0, none⟩ = some (.int .u16 (hsa : Int)) ∧ w'.drew.cell? ⟨bb, 0, none⟩ = some (.int .u16 (hsb : Int))) ∧ w'.drew.cell? ⟨ba, 17 + k, none⟩ = some (.int .i64 xa) ∧ w'.drew.cell? ⟨bb, 17 + k, none⟩ = some (.int .i64 xb) := ⟨⟨a0, b0⟩, a17, b17⟩
                by_cases hxy : xa = xb
                · subst hxy
                  have hx : itemsF ((k + 1) * 1) first (dm ma mb) = itemsF (k * 1) first (dm ma mb) := by rw [Nat.mul_one, Nat.mul_one, itemsF_none (dm_none (by rw [hma, hmb]))]
                  have HXS := Lib.hid hx
                  refine regi_begin (fun w' => (w'.cell? ⟨ba, 0, none⟩ = some (.int .u16 (hsa : Int)) ∧ w'.cell? ⟨bb, 0, none⟩ = some (.int .u16 (hsb : Int))) ∧ w'.cell? ⟨ba, 17 + k, none⟩ = some (.int .i64 xa) ∧ w'.cell? ⟨bb, 17 + k, none⟩ = some (.int .i64 xa)) (by kernel_rfl) ?_
                  (apply regi_take hF 0 rfl rfl (by decide +kernel) rfl); (rintro w' ⟨⟨h1, h2⟩, h3, h4⟩; go_simp; rfl); exact hS; simp only [List.setIfInBounds_toArray, List.set_cons_succ, List.set_cons_zero]
                  (apply regi_take hF 1 rfl rfl (by decide +kernel) rfl); (rintro w' ⟨⟨h1, h2⟩, h3, h4⟩; go_simp; rfl); exact hS; simp only [List.setIfInBounds_toArray, List.set_cons_succ, List.set_cons_zero]
                  (apply regi_take hF 2 rfl rfl (by decide +kernel) rfl); (rintro w' ⟨⟨h1, h2⟩, h3, h4⟩; go_simp; rfl); exact hS; simp only [List.setIfInBounds_toArray, List.set_cons_succ, List.set_cons_zero]
                  (apply regi_take hF 3 rfl rfl (by decide +kernel) rfl); (rintro w' ⟨⟨h1, h2⟩, h3, h4⟩; go_simp; rfl); exact hS; simp only [List.setIfInBounds_toArray, List.set_cons_succ, List.set_cons_zero]
                  (apply regi_take hF 4 rfl rfl (by decide +kernel) rfl); (rintro w' ⟨⟨h1, h2⟩, h3, h4⟩; go_simp; rfl); exact hS; simp only [List.setIfInBounds_toArray, List.set_cons_succ, List.set_cons_zero]
                  (apply regi_take hF 5 rfl rfl (by decide +kernel) rfl); (rintro w' ⟨⟨h1, h2⟩, h3, h4⟩; go_simp; rfl); exact hS; simp only [List.setIfInBounds_toArray, List.set_cons_succ, List.set_cons_zero]
                  (apply regi_take hF 6 rfl rfl (by decide +kernel) rfl); (rintro w' ⟨⟨h1, h2⟩, h3, h4⟩; go_simp; rfl); exact hS; simp only [List.setIfInBounds_toArray, List.set_cons_succ, List.set_cons_zero]
                  (apply regi_take hF 7 rfl rfl (by decide +kernel) rfl); (rintro w' ⟨⟨h1, h2⟩, h3, h4⟩; go_simp; rfl); exact hS; simp only [List.setIfInBounds_toArray, List.set_cons_succ, List.set_cons_zero]
                  (apply regi_take hF 8 rfl rfl (by decide +kernel) rfl); (rintro w' ⟨⟨h1, h2⟩, h3, h4⟩; go_simp; rfl); exact hS; simp only [List.setIfInBounds_toArray, List.set_cons_succ, List.set_cons_zero]
                  (apply regi_take hF 9 rfl rfl (by decide +kernel) rfl); (rintro w' ⟨⟨h1, h2⟩, h3, h4⟩; go_simp; rfl); exact hS; simp only [List.setIfInBounds_toArray, List.set_cons_succ, List.set_cons_zero]
                  (apply regi_take hF 10 rfl rfl (by decide +kernel) rfl); (rintro w' ⟨⟨h1, h2⟩, h3, h4⟩; go_simp; rfl); exact hS; simp only [List.setIfInBounds_toArray, List.set_cons_succ, List.set_cons_zero]
                  (apply regi_take hF 11 rfl rfl (by decide +kernel) rfl); (rintro w' ⟨⟨h1, h2⟩, h3, h4⟩; go_simp; rfl); exact hS; simp only [List.setIfInBounds_toArray, List.set_cons_succ, List.set_cons_zero]
                  (apply regi_take hF 12 rfl rfl (by decide +kernel) rfl); (rintro w' ⟨⟨h1, h2⟩, h3, h4⟩; go_simp; rfl); exact hS; simp only [List.setIfInBounds_toArray, List.set_cons_succ, List.set_cons_zero]
                  (apply regi_take hF 13 rfl rfl (by decide +kernel) rfl); (rintro w' ⟨⟨h1, h2⟩, h3, h4⟩; go_simp; rfl); exact hS; simp only [List.setIfInBounds_toArray, List.set_cons_succ, List.set_cons_zero]
                  (apply regi_take hF 14 rfl rfl (by decide +kernel) rfl); (rintro w' ⟨⟨h1, h2⟩, h3, h4⟩; go_simp; rfl); exact hS; simp only [List.setIfInBounds_toArray, List.set_cons_succ, List.set_cons_zero]
                  (apply regi_take hF 15 rfl rfl (by decide +kernel) rfl); (rintro w' ⟨⟨h1, h2⟩, h3, h4⟩; go_simp; rfl); exact hS; simp only [List.setIfInBounds_toArray, List.set_cons_succ, List.set_cons_zero]
                  (apply regi_take hF 16 rfl rfl (by decide +kernel) rfl); (rintro w' ⟨⟨h1, h2⟩, h3, h4⟩; go_simp; rfl); exact hS; simp only [List.setIfInBounds_toArray, List.set_cons_succ, List.set_cons_zero]
                  (apply regi_take hF 17 rfl rfl (by decide +kernel) rfl); (rintro w' ⟨⟨h1, h2⟩, h3, h4⟩; go_simp; rfl); exact hS; simp only [List.setIfInBounds_toArray, List.set_cons_succ, List.set_cons_zero]
                  (apply regi_take hF 18 rfl rfl (by decide +kernel) rfl); (rintro w' ⟨⟨h1, h2⟩, h3, h4⟩; go_simp; rfl); exact hS; simp only [List.setIfInBounds_toArray, List.set_cons_succ, List.set_cons_zero]
                  (apply regi_take hF 19 rfl rfl (by decide +kernel) rfl); (rintro w' ⟨⟨h1, h2⟩, h3, h4⟩; go_simp; rfl); exact hS; simp only [List.setIfInBounds_toArray, List.set_cons_succ, List.set_cons_zero]
                  (apply regi_take hF 20 rfl rfl (by decide +kernel) rfl); (rintro w' ⟨⟨h1, h2⟩, h3, h4⟩; go_simp; rfl); exact hS; simp only [List.setIfInBounds_toArray, List.set_cons_succ, List.set_cons_zero]
                  (apply regi_take hF 21 rfl rfl (by decide +kernel) rfl); (rintro w' ⟨⟨h1, h2⟩, h3, h4⟩; go_simp; rfl); exact hS; simp only [List.setIfInBounds_toArray, List.set_cons_succ, List.set_cons_zero]
                  (apply regi_take hF 22 rfl rfl (by decide +kernel) rfl); (rintro w' ⟨⟨h1, h2⟩, h3, h4⟩; go_simp; rfl); exact hS; simp only [List.setIfInBounds_toArray, List.set_cons_succ, List.set_cons_zero]
                  (apply regi_take hF 23 rfl rfl (by decide +kernel) rfl); (rintro w' ⟨⟨h1, h2⟩, h3, h4⟩; go_simp; rfl); exact hS; simp only [List.setIfInBounds_toArray, List.set_cons_succ, List.set_cons_zero]
                  (apply regi_take hF 24 rfl rfl (by decide +kernel) rfl); (rintro w' ⟨⟨h1, h2⟩, h3, h4⟩; go_simp; rfl); exact hS; simp only [List.setIfInBounds_toArray, List.set_cons_succ, List.set_cons_zero]
                  (apply regi_take hF 25 rfl rfl (by decide +kernel) rfl); (rintro w' ⟨⟨h1, h2⟩, h3, h4⟩; go_simp; rfl); exact hS; simp only [List.setIfInBounds_toArray, List.set_cons_succ, List.set_cons_zero]
                  (apply regi_take hF 26 rfl rfl (by decide +kernel) rfl); (rintro w' ⟨⟨h1, h2⟩, h3, h4⟩; go_simp; rfl); exact hS; simp only [List.setIfInBounds_toArray, List.set_cons_succ, List.set_cons_zero]
                  (apply regi_take hF 27 rfl rfl (by decide +kernel) rfl); (rintro w' ⟨⟨h1, h2⟩, h3, h4⟩; go_simp; rfl); exact hS; simp only [List.setIfInBounds_toArray, List.set_cons_succ, List.set_cons_zero]
                  (apply regi_take hF 28 rfl rfl (by decide +kernel) rfl); (rintro w' ⟨⟨h1, h2⟩, h3, h4⟩; go_simp; rfl); exact hS; simp only [List.setIfInBounds_toArray, List.set_cons_succ, List.set_cons_zero]
                  refine regi_done (by decide +kernel) ?_
                  have hJd : J (pre ++ itemsF (k * 1) first (dm ma mb)) w'.drew := hG _ _ _ hJs ⟨rfl, rfl, rfl, Nat.le_refl _, fun _ _ _ => rfl⟩
                  have hkd : KeepT TNode n₀ W2 w'.drew := hkw.trans (KeepT.drew _ _ _)
                  clear hS hbit hx a0 b0 a17 b17
                  gi_wp2
                  refine ⟨⟨⟨k + 1, _, by omega, HN.out, rfl, by rw [HXS.out]; exact hJd, hkd⟩⟩, ?_⟩
                  simp only [intOf]
                  have := Nat.and_le_right (n := both) (m := both - 1)
                  omega
                · have HDM := Lib.hid (dm_some (m := ma) (m' := mb) (i := k) (by rw [hma, hmb]; simpa using hxy))
                  have hxy2 : (xa == xb) = false := by simpa using hxy
                  refine regi_begin (fun w' => (w'.cell? ⟨ba, 0, none⟩ = some (.int .u16 (hsa : Int)) ∧ w'.cell? ⟨bb, 0, none⟩ = some (.int .u16 (hsb : Int))) ∧ w'.cell? ⟨ba, 17 + k, none⟩ = some (.int .i64 xa) ∧ w'.cell? ⟨bb, 17 + k, none⟩ = some (.int .i64 xb)) (by kernel_rfl) ?_
                  (apply regi_take hF 0 rfl rfl (by decide +kernel) rfl); (rintro w' ⟨⟨h1, h2⟩, h3, h4⟩; go_simp; rfl); exact hS; simp only [List.setIfInBounds_toArray, List.set_cons_succ, List.set_cons_zero]
                  (apply regi_take hF 1 rfl rfl (by decide +kernel) rfl); (rintro w' ⟨⟨h1, h2⟩, h3, h4⟩; go_simp; rfl); exact hS; simp only [List.setIfInBounds_toArray, List.set_cons_succ, List.set_cons_zero]
                  (apply regi_take hF 2 rfl rfl (by decide +kernel) rfl); (rintro w' ⟨⟨h1, h2⟩, h3, h4⟩; go_simp; rfl); exact hS; simp only [List.setIfInBounds_toArray, List.set_cons_succ, List.set_cons_zero]
                  (apply regi_take hF 3 rfl rfl (by decide +kernel) rfl); (rintro w' ⟨⟨h1, h2⟩, h3, h4⟩; go_simp; rfl); exact hS; simp only [List.setIfInBounds_toArray, List.set_cons_succ, List.set_cons_zero]
                  (apply regi_take hF 4 rfl rfl (by decide +kernel) rfl); (rintro w' ⟨⟨h1, h2⟩, h3, h4⟩; go_simp; rfl); exact hS; simp only [List.setIfInBounds_toArray, List.set_cons_succ, List.set_cons_zero]
                  (apply regi_take hF 5 rfl rfl (by decide +kernel) rfl); (rintro w' ⟨⟨h1, h2⟩, h3, h4⟩; go_simp; rfl); exact hS; simp only [List.setIfInBounds_toArray, List.set_cons_succ, List.set_cons_zero]
                  (apply regi_take hF 6 rfl rfl (by decide +kernel) rfl); (rintro w' ⟨⟨h1, h2⟩, h3, h4⟩; go_simp; rfl); exact hS; simp only [List.setIfInBounds_toArray, List.set_cons_succ, List.set_cons_zero]
                  (apply regi_take hF 7 rfl rfl (by decide +kernel) rfl); (rintro w' ⟨⟨h1, h2⟩, h3, h4⟩; go_simp; rfl); exact hS; simp only [List.setIfInBounds_toArray, List.set_cons_succ, List.set_cons_zero]
                  (apply regi_take hF 8 rfl rfl (by decide +kernel) rfl); (rintro w' ⟨⟨h1, h2⟩, h3, h4⟩; go_simp; rfl); exact hS; simp only [List.setIfInBounds_toArray, List.set_cons_succ, List.set_cons_zero]
                  (apply regi_take hF 9 rfl rfl (by decide +kernel) rfl); (rintro w' ⟨⟨h1, h2⟩, h3, h4⟩; go_simp; rfl); exact hS; simp only [List.setIfInBounds_toArray, List.set_cons_succ, List.set_cons_zero]
                  (apply regi_take hF 10 rfl rfl (by decide +kernel) rfl); (rintro w' ⟨⟨h1, h2⟩, h3, h4⟩; go_simp; rfl); exact hS; simp only [List.setIfInBounds_toArray, List.set_cons_succ, List.set_cons_zero]
                  (apply regi_take hF 11 rfl rfl (by decide +kernel) rfl); (rintro w' ⟨⟨h1, h2⟩, h3, h4⟩; go_simp; rfl); exact hS; simp only [List.setIfInBounds_toArray, List.set_cons_succ, List.set_cons_zero]
                  (apply regi_take hF 12 rfl rfl (by decide +kernel) rfl); (rintro w' ⟨⟨h1, h2⟩, h3, h4⟩; go_simp; rfl); exact hS; simp only [List.setIfInBounds_toArray, List.set_cons_succ, List.set_cons_zero]
                  (apply regi_take hF 13 rfl rfl (by decide +kernel) rfl); (rintro w' ⟨⟨h1, h2⟩, h3, h4⟩; go_simp; rfl); exact hS; simp only [List.setIfInBounds_toArray, List.set_cons_succ, List.set_cons_zero]
                  (apply regi_take hF 14 rfl rfl (by decide +kernel) rfl); (rintro w' ⟨⟨h1, h2⟩, h3, h4⟩; go_simp; rfl); exact hS; simp only [List.setIfInBounds_toArray, List.set_cons_succ, List.set_cons_zero]
                  (apply regi_take hF 15 rfl rfl (by decide +kernel) rfl); (rintro w' ⟨⟨h1, h2⟩, h3, h4⟩; go_simp; rfl); exact hS; simp only [List.setIfInBounds_toArray, List.set_cons_succ, List.set_cons_zero]
                  (apply regi_take hF 16 rfl rfl (by decide +kernel) rfl); (rintro w' ⟨⟨h1, h2⟩, h3, h4⟩; go_simp; rfl); exact hS; simp only [List.setIfInBounds_toArray, List.set_cons_succ, List.set_cons_zero]
                  (apply regi_take hF 17 rfl rfl (by decide +kernel) rfl); (rintro w' ⟨⟨h1, h2⟩, h3, h4⟩; go_simp; rfl); exact hS; simp only [List.setIfInBounds_toArray, List.set_cons_succ, List.set_cons_zero]
                  (apply regi_take hF 18 rfl rfl (by decide +kernel) rfl); (rintro w' ⟨⟨h1, h2⟩, h3, h4⟩; go_simp; rfl); exact hS; simp only [List.setIfInBounds_toArray, List.set_cons_succ, List.set_cons_zero]
                  (apply regi_take hF 19 rfl rfl (by decide +kernel) rfl); (rintro w' ⟨⟨h1, h2⟩, h3, h4⟩; go_simp; rfl); exact hS; simp only [List.setIfInBounds_toArray, List.set_cons_succ, List.set_cons_zero]
                  (apply regi_take hF 20 rfl rfl (by decide +kernel) rfl); (rintro w' ⟨⟨h1, h2⟩, h3, h4⟩; go_simp; rfl); exact hS; simp only [List.setIfInBounds_toArray, List.set_cons_succ, List.set_cons_zero]
                  (apply regi_take hF 21 rfl rfl (by decide +kernel) rfl); (rintro w' ⟨⟨h1, h2⟩, h3, h4⟩; go_simp; rfl); exact hS; simp only [List.setIfInBounds_toArray, List.set_cons_succ, List.set_cons_zero]
                  (apply regi_take hF 22 rfl rfl (by decide +kernel) rfl); (rintro w' ⟨⟨h1, h2⟩, h3, h4⟩; go_simp; rfl); exact hS; simp only [List.setIfInBounds_toArray, List.set_cons_succ, List.set_cons_zero]
                  (apply regi_take hF 23 rfl rfl (by decide +kernel) rfl); (rintro w' ⟨⟨h1, h2⟩, h3, h4⟩; go_simp; rfl); exact hS; simp only [List.setIfInBounds_toArray, List.set_cons_succ, List.set_cons_zero]
                  (apply regi_take hF 24 rfl rfl (by decide +kernel) rfl); (rintro w' ⟨⟨h1, h2⟩, h3, h4⟩; go_simp; rfl); exact hS; simp only [List.setIfInBounds_toArray, List.set_cons_succ, List.set_cons_zero]
                  (apply regi_take hF 25 rfl rfl (by decide +kernel) rfl); (rintro w' ⟨⟨h1, h2⟩, h3, h4⟩; go_simp; rfl); exact hS; simp only [List.setIfInBounds_toArray, List.set_cons_succ, List.set_cons_zero]
                  (apply regi_take hF 26 rfl rfl (by decide +kernel) rfl); (rintro w' ⟨⟨h1, h2⟩, h3, h4⟩; go_simp; rfl); exact hS; simp only [List.setIfInBounds_toArray, List.set_cons_succ, List.set_cons_zero]
                  (apply regi_take hF 27 rfl rfl (by decide +kernel) rfl); (rintro w' ⟨⟨h1, h2⟩, h3, h4⟩; go_simp; rfl); exact hS; simp only [List.setIfInBounds_toArray, List.set_cons_succ, List.set_cons_zero]
                  (apply regi_take hF 28 rfl rfl (by decide +kernel) rfl); (rintro w' ⟨⟨h1, h2⟩, h3, h4⟩; go_simp; rfl); exact hS; simp only [List.setIfInBounds_toArray, List.set_cons_succ, List.set_cons_zero]
                  refine regi_done (by decide +kernel) ?_
                  have hJd : J (pre ++ itemsF (k * 1) first (dm ma mb)) w'.drew := hG _ _ _ hJs ⟨rfl, rfl, rfl, Nat.le_refl _, fun _ _ _ => rfl⟩
                  have hx : itemsF ((k + 1) * 1) first (dm ma mb) = itemsF (k * 1) first (dm ma mb) ++ [(first + k, 0)] := by rw [Nat.mul_one, Nat.mul_one, itemsF_some HDM.out]
                  have hlen := itemsF_lenle (m := dm ma mb) (first := first) (a := (k + 1) * 1) (b := 16) (by omega)
                  obtain ⟨fn, tmps, assign, body, hy, hR⟩ := HYY.out (n - 1) (pre ++ itemsF (k * 1) first (dm ma mb)) (first + k, 0) w'.drew hJd (by have := HNN.out; rw [hx] at hlen; simp at hlen ⊢; omega)
                  dsimp only at hy
                  rw [Int.natCast_add] at hy
                  have HXS := Lib.hid hx
                  have hkd : KeepT TNode n₀ W2 w'.drew := hkw.trans (KeepT.drew _ _ _)
                  clear hS hbit hx hlen a0 b0 a17 b17 hJd
                  gi_wp2_with ((try refine ⟨hdd _, ?_⟩); refine hR.mono ?_; clear hR; rintro e W3 (⟨rfl, hJ3, hb3⟩ | ⟨rfl, hJx3⟩))
                  · refine ⟨⟨⟨k + 1, _, by omega, HN.out, rfl, by rw [HXS.out, ← List.append_assoc]; exact hJ3, hkd.trans hb3⟩⟩, ?_⟩
                    simp only [intOf]
                    have := Nat.and_le_right (n := both) (m := both - 1)
                    omega
                  · go_ret
                    exact .inr ⟨rfl, itemsF (k * 1) first (dm ma mb) ++ [(first + k, 0)], by rw [← HXS.out]; exact itemsF_prefix (by omega), by rw [← List.append_assoc]; exact hJx3⟩
    | some aa =>
      obtain ⟨ba, rfl, -, -, -⟩ := NodeOk.block hna
      cases qb with
      | none =>
        obtain ⟨bb, hbz⟩ : ∃ b, b = W.heap.size := ⟨_, rfl⟩
        obtain ⟨W1, hW1⟩ : ∃ W1, W1 = W.alloc (.cells (nodeC 0 nils zers) TNode) := ⟨_, rfl⟩
        have hK1 : KeepT TNode n₀ W W1 := by rw [hW1]; exact (KeepT.refl _ _ W).alloc hsz _
        have hJ1 : J pre W1 := by rw [hW1]; exact hG _ _ _ hJ (World.grownBy_alloc W _ none)
        have hT1 : TabW W1 := hT.keep (hK1.bel.block 0 hn0)
        have hA1 := NodeV.keep hK1 (NodeV.of hna)
        have hB1 : NodeV TNode (· < n₀) W1 0 bb mb := NodeV.none (by rw [hW1, hbz]; exact World.alloc_heap_new W _) (NodeOk.nil hnb)
        have hs1 : n₀ ≤ W1.heap.size := Nat.le_trans hsz hK1.bel.size
        have HP := Lib.hid (And.intro hW1 (And.intro hK1 (And.intro hJ1 (And.intro hT1 (And.intro hA1 (And.intro hB1 (And.intro hs1 hbz)))))))
        have HYY := Lib.hid hY
        have HNN := Lib.hid hN
        have hor := u16_or_nat (has0 ma) (has0 mb) (has0_lt ma) (has0_lt mb)
        clear hna hnb hT hab hJ hY hN hW1 hK1 hJ1 hT1 hA1 hB1 hs1 hbz
        gi_wp2
        obtain ⟨hW1, hK1, hJ1, hT1, hA1, hB1, hs1, hbz⟩ := HP.out
        change Code.wpIn F n Tryz.prog _ _ _ (W.alloc (.cells (nodeC 0 nils zers) TNode))
        rw [← hW1, ← hbz]
        clear hW1 HP hbz
        obtain ⟨a0, -, -⟩ := nodeC_at hA1 rfl
        obtain ⟨b0, -, -⟩ := nodeC_at hB1 rfl
        have hS : W1.drew.cell? ⟨ba, 0, none⟩ = some (.int .u16 ((has0 ma) : Int)) ∧ W1.drew.cell? ⟨bb, 0, none⟩ = some (.int .u16 ((has0 mb) : Int)) := ⟨a0, b0⟩
        refine regi_begin (fun w' => w'.cell? ⟨ba, 0, none⟩ = some (.int .u16 ((has0 ma) : Int)) ∧ w'.cell? ⟨bb, 0, none⟩ = some (.int .u16 ((has0 mb) : Int))) (by kernel_rfl) ?_
        (apply regi_take hF 0 rfl rfl (by decide +kernel) rfl); (rintro w' ⟨h1, h2⟩; go_simp; rfl); exact hS; simp only [List.setIfInBounds_toArray, List.set_cons_succ, List.set_cons_zero]
        (apply regi_take hF 1 rfl rfl (by decide +kernel) rfl); (rintro w' ⟨h1, h2⟩; go_simp; rfl); exact hS; simp only [List.setIfInBounds_toArray, List.set_cons_succ, List.set_cons_zero]
        (apply regi_take hF 2 rfl rfl (by decide +kernel) rfl); (rintro w' ⟨h1, h2⟩; go_simp; rfl); exact hS; simp only [List.setIfInBounds_toArray, List.set_cons_succ, List.set_cons_zero]
        (apply regi_take hF 3 rfl rfl (by decide +kernel) rfl); (rintro w' ⟨h1, h2⟩; go_simp; rfl); exact hS; simp only [List.setIfInBounds_toArray, List.set_cons_succ, List.set_cons_zero]
        (apply regi_take hF 4 rfl rfl (by decide +kernel) rfl); (rintro w' ⟨h1, h2⟩; go_simp; rfl); exact hS; simp only [List.setIfInBounds_toArray, List.set_cons_succ, List.set_cons_zero]
        (apply regi_take hF 5 rfl rfl (by decide +kernel) rfl); (rintro w' ⟨h1, h2⟩; go_simp; rfl); exact hS; simp only [List.setIfInBounds_toArray, List.set_cons_succ, List.set_cons_zero]
        (apply regi_take hF 6 rfl rfl (by decide +kernel) rfl); (rintro w' ⟨h1, h2⟩; go_simp; rfl); exact hS; simp only [List.setIfInBounds_toArray, List.set_cons_succ, List.set_cons_zero]
        (apply regi_take hF 7 rfl rfl (by decide +kernel) rfl); (rintro w' ⟨h1, h2⟩; go_simp; rfl); exact hS; simp only [List.setIfInBounds_toArray, List.set_cons_succ, List.set_cons_zero]
        (apply regi_take hF 8 rfl rfl (by decide +kernel) rfl); (rintro w' ⟨h1, h2⟩; go_simp; rfl); exact hS; simp only [List.setIfInBounds_toArray, List.set_cons_succ, List.set_cons_zero]
        (apply regi_take hF 9 rfl rfl (by decide +kernel) rfl); (rintro w' ⟨h1, h2⟩; go_simp; rfl); exact hS; simp only [List.setIfInBounds_toArray, List.set_cons_succ, List.set_cons_zero]
        refine regi_done (by decide +kernel) ?_
        clear hS a0 b0
        have hK2 : KeepT TNode n₀ W W1.drew := hK1.trans (KeepT.drew _ _ _)
        have hJ2 : J pre W1.drew := hG _ _ _ hJ1 ⟨rfl, rfl, rfl, Nat.le_refl _, fun _ _ _ => rfl⟩
        have hT2 : TabW W1.drew := hT1
        have hA2 : NodeV TNode (· < n₀) W1.drew 0 ba ma := NodeV.keep (KeepT.drew _ _ _) hA1
        have hB2 : NodeV TNode (· < n₀) W1.drew 0 bb mb := NodeV.keep (KeepT.drew _ _ _) hB1
        have hs2 : n₀ ≤ W1.drew.heap.size := hs1
        clear hK1 hJ1 hT1 hA1 hB1 hs1
        generalize W1.drew = W2 at *
        have hst : DiffSt n₀ J 1 first ((has0 ma) ||| (has0 mb)) (dm ma mb) pre W2 (.int .u16 (((has0 ma) ||| (has0 mb) : Nat) : Int)) W2 := ⟨⟨0, _, by omega, BitsFrom.start (Nat.or_lt_two_pow (n := 16) (has0_lt ma) (has0_lt mb)), rfl, by rw [Nat.zero_mul, itemsF_zero, List.append_nil]; exact hJ2, KeepT.refl _ _ _⟩⟩
        have HP := Lib.hid (And.intro hK2 (And.intro hT2 (And.intro hA2 (And.intro hB2 hs2))))
        have HST := Lib.hid hst
        clear hK2 hT2 hA2 hB2 hs2 hJ2 hst hor
        gi_wp2
        gi_loopw [12, 13, 14, 45, 66] (fun v _ _ _ _ wr => DiffSt n₀ J 1 first ((has0 ma) ||| (has0 mb)) (dm ma mb) pre W2 v wr) (fun v _ _ _ _ _ => (intOf v).toNat)
        case atStart => exact HST.out
        case round =>
          clear HST
          obtain ⟨j, both, hj, hbf, rfl, hJs, hkw⟩ := hrel.st
          clear hrel
          by_cases hb0 : both = 0
          · subst hb0
            have hz := hbf.zero
            have hx : itemsF 16 first (dm ma mb) = itemsF (j * 1) first (dm ma mb) := by
              rw [Nat.mul_one, show 16 = j + (16 - j) by omega]
              refine itemsF_skip _ fun i h1 h2 => dm_none ?_
              have h3 := hz i h1
              rw [Nat.testBit_or, has0_bit ma (by omega), has0_bit mb (by omega)] at h3
              revert h3
              cases ma i <;> cases mb i <;> simp
            have HX := Lib.hid hx
            have hdone := HP.out.1.trans hkw
            clear hz hx hbf
            gi_wp2
            go_ret
            exact .inl ⟨rfl, by rw [HX.out]; exact hJs, hdone⟩
          · have htz := tz16_any both hb0 hbf.lt wr (HP.out.2.1.keep (hkw.bel.block 0 hn0))
            obtain ⟨hjk, hk16, hbk, hskip, hnext⟩ := hbf.next hb0
            have hA3 := NodeV.keep hkw HP.out.2.2.1
            have hB3 := NodeV.keep hkw HP.out.2.2.2.1
            have hbl := hbf.lt
            generalize Lib.ctz 16 both = k at *
            have hand := u16_and_nat both (both - 1) hbl (by omega)
            have hsub : ((both - 1 : Nat) : Int) = (both : Int) - 1 := by omega
            rw [hsub] at hand
            have hxk : itemsF (k * 1) first (dm ma mb) = itemsF (j * 1) first (dm ma mb) := by
              rw [Nat.mul_one, Nat.mul_one, show k = j + (k - j) by omega]
              refine itemsF_skip _ fun i h1 h2 => dm_none ?_
              have h3 := hskip i h1 (by omega)
              rw [Nat.testBit_or, has0_bit ma (by omega), has0_bit mb (by omega)] at h3
              revert h3
              cases ma i <;> cases mb i <;> simp
            rw [← hxk] at hJs
            have HXK := Lib.hid hxk
            have HTZ := Lib.hid htz
            have HN := Lib.hid hnext
            have hki : (k : Int) < 16 := by omega
            have hbi : ((both : Int) == 0) = false := by simpa using hb0
            have hb1 : (1 : Int) ≤ (both : Int) := by omega
            obtain ⟨a0, -, a2⟩ := nodeC_at hA3 rfl
            obtain ⟨b0, -, b2⟩ := nodeC_at hB3 rfl
            have a17 := a2 k _ (chs_at ma hk16)
            have b17 := b2 k _ (chs_at mb hk16)
            have hxor := u16_xor_nat (has0 ma) (has0 mb) (has0_lt ma) (has0_lt mb)
            have hbit := bit1 (has0 ma ^^^ has0 mb) k (Nat.xor_lt_two_pow (n := 16) (has0_lt ma) (has0_lt mb))
            rw [Nat.testBit_xor, has0_bit ma hk16, has0_bit mb hk16] at hbit
            rw [Nat.testBit_or, has0_bit ma hk16, has0_bit mb hk16] at hbk
            generalize has0 ma = hsa at *
            generalize has0 mb = hsb at *
            clear hskip hnext hbf htz hsub a2 b2 hA3 hB3 hxk
            gi_upto_region 16 with (first | ((try refine ⟨hdd _, ?_⟩); gi_at_call 105; refine (hF.calls _ _ _ _ _ HTZ.out).mono ?_; rintro e w' ⟨rfl, rfl⟩))
            cases hma : ma k with
            | none => cases hmb : mb k with
              | none => rw [hma, hmb] at hbk; cases hbk
              | some xb =>
                have HDM := Lib.hid (dm_some (m := ma) (m' := mb) (i := k) (by rw [hma, hmb]; simp))
                rw [hma, hmb] at hbit
                have hbit2 : bits .and .u16 (((hsa ^^^ hsb : Nat) : Int) / 2 ^ k) 1 = 1 := hbit
                have hS : w'.drew.cell? ⟨ba, 0, none⟩ = some (.int .u16 (hsa : Int)) ∧ w'.drew.cell? ⟨bb, 0, none⟩ = some (.int .u16 (hsb : Int)) := ⟨a0, b0⟩
                refine regi_begin (fun w' => w'.cell? ⟨ba, 0, none⟩ = some (.int .u16 (hsa : Int)) ∧ w'.cell? ⟨bb, 0, none⟩ = some (.int .u16 (hsb : Int))) (by kernel_rfl) ?_
                (apply regi_take hF 0 rfl rfl (by decide +kernel) rfl); (rintro w' ⟨h1, h2⟩; go_simp; rfl); exact hS; simp only [List.setIfInBounds_toArray, List.set_cons_succ, List.set_cons_zero]
                (apply regi_take hF 1 rfl rfl (by decide +kernel) rfl); (rintro w' ⟨h1, h2⟩; go_simp; rfl); exact hS; simp only [List.setIfInBounds_toArray, List.set_cons_succ, List.set_cons_zero]
                (apply regi_take hF 2 rfl rfl (by decide +kernel) rfl); (rintro w' ⟨h1, h2⟩; go_simp; rfl); exact hS; simp only [List.setIfInBounds_toArray, List.set_cons_succ, List.set_cons_zero]
                (apply regi_take hF 3 rfl rfl (by decide +kernel) rfl); (rintro w' ⟨h1, h2⟩; go_simp; rfl); exact hS; simp only [List.setIfInBounds_toArray, List.set_cons_succ, List.set_cons_zero]
                (apply regi_take hF 4 rfl rfl (by decide +kernel) rfl); (rintro w' ⟨h1, h2⟩; go_simp; rfl); exact hS; simp only [List.setIfInBounds_toArray, List.set_cons_succ, List.set_cons_zero]
                (apply regi_take hF 5 rfl rfl (by decide +kernel) rfl); (rintro w' ⟨h1, h2⟩; go_simp; rfl); exact hS; simp only [List.setIfInBounds_toArray, List.set_cons_succ, List.set_cons_zero]
                (apply regi_take hF 6 rfl rfl (by decide +kernel) rfl); (rintro w' ⟨h1, h2⟩; go_simp; rfl); exact hS; simp only [List.setIfInBounds_toArray, List.set_cons_succ, List.set_cons_zero]
                (apply regi_take hF 7 rfl rfl (by decide +kernel) rfl); (rintro w' ⟨h1, h2⟩; go_simp; rfl); exact hS; simp only [List.setIfInBounds_toArray, List.set_cons_succ, List.set_cons_zero]
                (apply regi_take hF 8 rfl rfl (by decide +kernel) rfl); (rintro w' ⟨h1, h2⟩; go_simp; rfl); exact hS; simp only [List.setIfInBounds_toArray, List.set_cons_succ, List.set_cons_zero]
                (apply regi_take hF 9 rfl rfl (by decide +kernel) rfl); (rintro w' ⟨h1, h2⟩; go_simp; rfl); exact hS; simp only [List.setIfInBounds_toArray, List.set_cons_succ, List.set_cons_zero]
                (apply regi_take hF 10 rfl rfl (by decide +kernel) rfl); (rintro w' ⟨h1, h2⟩; go_simp; rfl); exact hS; simp only [List.setIfInBounds_toArray, List.set_cons_succ, List.set_cons_zero]
                (apply regi_take hF 11 rfl rfl (by decide +kernel) rfl); (rintro w' ⟨h1, h2⟩; go_simp; rfl); exact hS; simp only [List.setIfInBounds_toArray, List.set_cons_succ, List.set_cons_zero]
                (apply regi_take hF 12 rfl rfl (by decide +kernel) rfl); (rintro w' ⟨h1, h2⟩; go_simp; rfl); exact hS; simp only [List.setIfInBounds_toArray, List.set_cons_succ, List.set_cons_zero]
                (apply regi_take hF 13 rfl rfl (by decide +kernel) rfl); (rintro w' ⟨h1, h2⟩; go_simp; rfl); exact hS; simp only [List.setIfInBounds_toArray, List.set_cons_succ, List.set_cons_zero]
                refine regi_skip hF 14 rfl rfl (by decide +kernel) rfl hS ?_; simp only [List.setIfInBounds_toArray, List.set_cons_succ, List.set_cons_zero]
                refine regi_skip hF 15 rfl rfl (by decide +kernel) rfl hS ?_; simp only [List.setIfInBounds_toArray, List.set_cons_succ, List.set_cons_zero]
                refine regi_skip hF 16 rfl rfl (by decide +kernel) rfl hS ?_; simp only [List.setIfInBounds_toArray, List.set_cons_succ, List.set_cons_zero]
                refine regi_skip hF 17 rfl rfl (by decide +kernel) rfl hS ?_; simp only [List.setIfInBounds_toArray, List.set_cons_succ, List.set_cons_zero]
                refine regi_skip hF 18 rfl rfl (by decide +kernel) rfl hS ?_; simp only [List.setIfInBounds_toArray, List.set_cons_succ, List.set_cons_zero]
                refine regi_skip hF 19 rfl rfl (by decide +kernel) rfl hS ?_; simp only [List.setIfInBounds_toArray, List.set_cons_succ, List.set_cons_zero]
                refine regi_skip hF 20 rfl rfl (by decide +kernel) rfl hS ?_; simp only [List.setIfInBounds_toArray, List.set_cons_succ, List.set_cons_zero]
                refine regi_skip hF 21 rfl rfl (by decide +kernel) rfl hS ?_; simp only [List.setIfInBounds_toArray, List.set_cons_succ, List.set_cons_zero]
                refine regi_skip hF 22 rfl rfl (by decide +kernel) rfl hS ?_; simp only [List.setIfInBounds_toArray, List.set_cons_succ, List.set_cons_zero]
                refine regi_skip hF 23 rfl rfl (by decide +kernel) rfl hS ?_; simp only [List.setIfInBounds_toArray, List.set_cons_succ, List.set_cons_zero]
                refine regi_skip hF 24 rfl rfl (by decide +kernel) rfl hS ?_; simp only [List.setIfInBounds_toArray, List.set_cons_succ, List.set_cons_zero]
                refine regi_skip hF 25 rfl rfl (by decide +kernel) rfl hS ?_; simp only [List.setIfInBounds_toArray, List.set_cons_succ, List.set_cons_zero]
                refine regi_skip hF 26 rfl rfl (by decide +kernel) rfl hS ?_; simp only [List.setIfInBounds_toArray, List.set_cons_succ, List.set_cons_zero]
                (apply regi_take hF 27 rfl rfl (by decide +kernel) rfl); (rintro w' ⟨h1, h2⟩; go_simp; rfl); exact hS; simp only [List.setIfInBounds_toArray, List.set_cons_succ, List.set_cons_zero]
                (apply regi_take hF 28 rfl rfl (by decide +kernel) rfl); (rintro w' ⟨h1, h2⟩; go_simp; rfl); exact hS; simp only [List.setIfInBounds_toArray, List.set_cons_succ, List.set_cons_zero]
                refine regi_done (by decide +kernel) ?_
                have hJd : J (pre ++ itemsF (k * 1) first (dm ma mb)) w'.drew := hG _ _ _ hJs ⟨rfl, rfl, rfl, Nat.le_refl _, fun _ _ _ => rfl⟩
                have hx : itemsF ((k + 1) * 1) first (dm ma mb) = itemsF (k * 1) first (dm ma mb) ++ [(first + k, 0)] := by rw [Nat.mul_one, Nat.mul_one, itemsF_some HDM.out]
                have hlen := itemsF_lenle (m := dm ma mb) (first := first) (a := (k + 1) * 1) (b := 16) (by omega)
                obtain ⟨fn, tmps, assign, body, hy, hR⟩ := HYY.out (n - 1) (pre ++ itemsF (k * 1) first (dm ma mb)) (first + k, 0) w'.drew hJd (by have := HNN.out; rw [hx] at hlen; simp at hlen ⊢; omega)
                dsimp only at hy
                rw [Int.natCast_add] at hy
                have HXS := Lib.hid hx
                have hkd : KeepT TNode n₀ W2 w'.drew := hkw.trans (KeepT.drew _ _ _)
                clear hS hbit hx hlen a0 b0 a17 b17 hJd
                gi_wp2_with ((try refine ⟨hdd _, ?_⟩); refine hR.mono ?_; clear hR; rintro e W3 (⟨rfl, hJ3, hb3⟩ | ⟨rfl, hJx3⟩))
                · refine ⟨⟨⟨k + 1, _, by omega, HN.out, rfl, by rw [HXS.out, ← List.append_assoc]; exact hJ3, hkd.trans hb3⟩⟩, ?_⟩
                  simp only [intOf]
                  have := Nat.and_le_right (n := both) (m := both - 1)
                  omega
                · go_ret
                  exact .inr ⟨rfl, itemsF (k * 1) first (dm ma mb) ++ [(first + k, 0)], by rw [← HXS.out]; exact itemsF_prefix (by omega), by rw [← List.append_assoc]; exact hJx3⟩
            | some xa => cases hmb : mb k with
              | none =>
                have HDM := Lib.hid (dm_some (m := ma) (m' := mb) (i := k) (by rw [hma, hmb]; simp))
                rw [hma, hmb] at hbit
                have hbit2 : bits .and .u16 (((hsa ^^^ hsb : Nat) : Int) / 2 ^ k) 1 = 1 := hbit
                have hS : w'.drew.cell? ⟨ba, 0, none⟩ = some (.int .u16 (hsa : Int)) ∧ w'.drew.cell? ⟨bb, 0, none⟩ = some (.int .u16 (hsb : Int)) := ⟨a0, b0⟩
                refine regi_begin (fun w' => w'.cell? ⟨ba, 0, none⟩ = some (.int .u16 (hsa : Int)) ∧ w'.cell? ⟨bb, 0, none⟩ = some (.int .u16 (hsb : Int))) (by kernel_rfl) ?_
                (apply regi_take hF 0 rfl rfl (by decide +kernel) rfl); (rintro w' ⟨h1, h2⟩; go_simp; rfl); exact hS; simp only [List.setIfInBounds_toArray, List.set_cons_succ, List.set_cons_zero]
                (apply regi_take hF 1 rfl rfl (by decide +kernel) rfl); (rintro w' ⟨h1, h2⟩; go_simp; rfl); exact hS; simp only [List.setIfInBounds_toArray, List.set_cons_succ, List.set_cons_zero]
                (apply regi_take hF 2 rfl rfl (by decide +kernel) rfl); (rintro w' ⟨h1, h2⟩; go_simp; rfl); exact hS; simp only [List.setIfInBounds_toArray, List.set_cons_succ, List.set_cons_zero]
                (apply regi_take hF 3 rfl rfl (by decide +kernel) rfl); (rintro w' ⟨h1, h2⟩; go_simp; rfl); exact hS; simp only [List.setIfInBounds_toArray, List.set_cons_succ, List.set_cons_zero]
                (apply regi_take hF 4 rfl rfl (by decide +kernel) rfl); (rintro w' ⟨h1, h2⟩; go_simp; rfl); exact hS; simp only [List.setIfInBounds_toArray, List.set_cons_succ, List.set_cons_zero]
                (apply regi_take hF 5 rfl rfl (by decide +kernel) rfl); (rintro w' ⟨h1, h2⟩; go_simp; rfl); exact hS; simp only [List.setIfInBounds_toArray, List.set_cons_succ, List.set_cons_zero]
                (apply regi_take hF 6 rfl rfl (by decide +kernel) rfl); (rintro w' ⟨h1, h2⟩; go_simp; rfl); exact hS; simp only [List.setIfInBounds_toArray, List.set_cons_succ, List.set_cons_zero]
                (apply regi_take hF 7 rfl rfl (by decide +kernel) rfl); (rintro w' ⟨h1, h2⟩; go_simp; rfl); exact hS; simp only [List.setIfInBounds_toArray, List.set_cons_succ, List.set_cons_zero]
                (apply regi_take hF 8 rfl rfl (by decide +kernel) rfl); (rintro w' ⟨h1, h2⟩; go_simp; rfl); exact hS; simp only [List.setIfInBounds_toArray, List.set_cons_succ, List.set_cons_zero]
                (apply regi_take hF 9 rfl rfl (by decide +kernel) rfl); (rintro w' ⟨h1, h2⟩; go_simp; rfl); exact hS; simp only [List.setIfInBounds_toArray, List.set_cons_succ, List.set_cons_zero]
                (apply regi_take hF 10 rfl rfl (by decide +kernel) rfl); (rintro w' ⟨h1, h2⟩; go_simp; rfl); exact hS; simp only [List.setIfInBounds_toArray, List.set_cons_succ, List.set_cons_zero]
                (apply regi_take hF 11 rfl rfl (by decide +kernel) rfl); (rintro w' ⟨h1, h2⟩; go_simp; rfl); exact hS; simp only [List.setIfInBounds_toArray, List.set_cons_succ, List.set_cons_zero]
                (apply regi_take hF 12 rfl rfl (by decide +kernel) rfl); (rintro w' ⟨h1, h2⟩; go_simp; rfl); exact hS; simp only [List.setIfInBounds_toArray, List.set_cons_succ, List.set_cons_zero]
                (apply regi_take hF 13 rfl rfl (by decide +kernel) rfl); (rintro w' ⟨h1, h2⟩; go_simp; rfl); exact hS; simp only [List.setIfInBounds_toArray, List.set_cons_succ, List.set_cons_zero]
                refine regi_skip hF 14 rfl rfl (by decide +kernel) rfl hS ?_; simp only [List.setIfInBounds_toArray, List.set_cons_succ, List.set_cons_zero]
                refine regi_skip hF 15 rfl rfl (by decide +kernel) rfl hS ?_; simp only [List.setIfInBounds_toArray, List.set_cons_succ, List.set_cons_zero]
                refine regi_skip hF 16 rfl rfl (by decide +kernel) rfl hS ?_; simp only [List.setIfInBounds_toArray, List.set_cons_succ, List.set_cons_zero]
                refine regi_skip hF 17 rfl rfl (by decide +kernel) rfl hS ?_; simp only [List.setIfInBounds_toArray, List.set_cons_succ, List.set_cons_zero]
                refine regi_skip hF 18 rfl rfl (by decide +kernel) rfl hS ?_; simp only [List.setIfInBounds_toArray, List.set_cons_succ, List.set_cons_zero]
                refine regi_skip hF 19 rfl rfl (by decide +kernel) rfl hS ?_; simp only [List.setIfInBounds_toArray, List.set_cons_succ, List.set_cons_zero]
                refine regi_skip hF 20 rfl rfl (by decide +kernel) rfl hS ?_; simp only [List.setIfInBounds_toArray, List.set_cons_succ, List.set_cons_zero]
                refine regi_skip hF 21 rfl rfl (by decide +kernel) rfl hS ?_; simp only [List.setIfInBounds_toArray, List.set_cons_succ, List.set_cons_zero]
                refine regi_skip hF 22 rfl rfl (by decide +kernel) rfl hS ?_; simp only [List.setIfInBounds_toArray, List.set_cons_succ, List.set_cons_zero]
                refine regi_skip hF 23 rfl rfl (by decide +kernel) rfl hS ?_; simp only [List.setIfInBounds_toArray, List.set_cons_succ, List.set_cons_zero]
                refine regi_skip hF 24 rfl rfl (by decide +kernel) rfl hS ?_; simp only [List.setIfInBounds_toArray, List.set_cons_succ, List.set_cons_zero]
                refine regi_skip hF 25 rfl rfl (by decide +kernel) rfl hS ?_; simp only [List.setIfInBounds_toArray, List.set_cons_succ, List.set_cons_zero]
                refine regi_skip hF 26 rfl rfl (by decide +kernel) rfl hS ?_; simp only [List.setIfInBounds_toArray, List.set_cons_succ, List.set_cons_zero]
                (apply regi_take hF 27 rfl rfl (by decide +kernel) rfl); (rintro w' ⟨h1, h2⟩; go_simp; rfl); exact hS; simp only [List.setIfInBounds_toArray, List.set_cons_succ, List.set_cons_zero]
                (apply regi_take hF 28 rfl rfl (by decide +kernel) rfl); (rintro w' ⟨h1, h2⟩; go_simp; rfl); exact hS; simp only [List.setIfInBounds_toArray, List.set_cons_succ, List.set_cons_zero]
                refine regi_done (by decide +kernel) ?_
                have hJd : J (pre ++ itemsF (k * 1) first (dm ma mb)) w'.drew := hG _ _ _ hJs ⟨rfl, rfl, rfl, Nat.le_refl _, fun _ _ _ => rfl⟩
                have hx : itemsF ((k + 1) * 1) first (dm ma mb) = itemsF (k * 1) first (dm ma mb) ++ [(first + k, 0)] := by rw [Nat.mul_one, Nat.mul_one, itemsF_some HDM.out]
                have hlen := itemsF_lenle (m := dm ma mb) (first := first) (a := (k + 1) * 1) (b := 16) (by omega)
                obtain ⟨fn, tmps, assign, body, hy, hR⟩ := HYY.out (n - 1) (pre ++ itemsF (k * 1) first (dm ma mb)) (first + k, 0) w'.drew hJd (by have := HNN.out; rw [hx] at hlen; simp at hlen ⊢; omega)
                dsimp only at hy
                rw [Int.natCast_add] at hy
                have HXS := Lib.hid hx
                have hkd : KeepT TNode n₀ W2 w'.drew := hkw.trans (KeepT.drew _ _ _)
                clear hS hbit hx hlen a0 b0 a17 b17 hJd
                gi_wp2_with ((try refine ⟨hdd _, ?_⟩); refine hR.mono ?_; clear hR; rintro e W3 (⟨rfl, hJ3, hb3⟩ | ⟨rfl, hJx3⟩))
                · refine ⟨⟨⟨k + 1, _, by omega, HN.out, rfl, by rw [HXS.out, ← List.append_assoc]; exact hJ3, hkd.trans hb3⟩⟩, ?_⟩
                  simp only [intOf]
                  have := Nat.and_le_right (n := both) (m := both - 1)
                  omega
                · go_ret
                  exact .inr ⟨rfl, itemsF (k * 1) first (dm ma mb) ++ [(first + k, 0)], by rw [← HXS.out]; exact itemsF_prefix (by omega), by rw [← List.append_assoc]; exact hJx3⟩
              | some xb =>
                rw [hma, hmb] at hbit
                rw [hma] at a17
                rw [hmb] at b17
                have hbit2 : bits .and .u16 (((hsa ^^^ hsb : Nat) : Int) / 2 ^ k) 1 = 0 := hbit
                have hS : (w'.drew.cell? ⟨ba, 0, none⟩ = some (.int .u16 (hsa : Int)) ∧ w'.drew.cell? ⟨bb, 0, none⟩ = some (.int .u16 (hsb : Int))) ∧ w'.drew.cell? ⟨ba, 17 + k, none⟩ = some (.int .i64 xa) ∧ w'.drew.cell? ⟨bb, 17 + k, none⟩ = some (.int .i64 xb) := ⟨⟨a0, b0⟩, a17, b17⟩
                by_cases hxy : xa = xb
                · subst hxy
                  have hx : itemsF ((k + 1) * 1) first (dm ma mb) = itemsF (k * 1) first (dm ma mb) := by rw [Nat.mul_one, Nat.mul_one, itemsF_none (dm_none (by rw [hma, hmb]))]
                  have HXS := Lib.hid hx
                  refine regi_begin (fun w' => (w'.cell? ⟨ba, 0, none⟩ = some (.int .u16 (hsa : Int)) ∧ w'.cell? ⟨bb, 0, none⟩ = some (.int .u16 (hsb : Int))) ∧ w'.cell? ⟨ba, 17 + k, none⟩ = some (.int .i64 xa) ∧ w'.cell? ⟨bb, 17 + k, none⟩ = some (.int .i64 xa)) (by kernel_rfl) ?_
                  (apply regi_take hF 0 rfl rfl (by decide +kernel) rfl); (rintro w' ⟨⟨h1, h2⟩, h3, h4⟩; go_simp; rfl); exact hS; simp only [List.setIfInBounds_toArray, List.set_cons_succ, List.set_cons_zero]
                  (apply regi_take hF 1 rfl rfl (by decide +kernel) rfl); (rintro w' ⟨⟨h1, h2⟩, h3, h4⟩; go_simp; rfl); exact hS; simp only [List.setIfInBounds_toArray, List.set_cons_succ, List.set_cons_zero]
                  (apply regi_take hF 2 rfl rfl (by decide +kernel) rfl); (rintro w' ⟨⟨h1, h2⟩, h3, h4⟩; go_simp; rfl); exact hS; simp only [List.setIfInBounds_toArray, List.set_cons_succ, List.set_cons_zero]
                  (apply regi_take hF 3 rfl rfl (by decide +kernel) rfl); (rintro w' ⟨⟨h1, h2⟩, h3, h4⟩; go_simp; rfl); exact hS; simp only [List.setIfInBounds_toArray, List.set_cons_succ, List.set_cons_zero]
                  (apply regi_take hF 4 rfl rfl (by decide +kernel) rfl); (rintro w' ⟨⟨h1, h2⟩, h3, h4⟩; go_simp; rfl); exact hS; simp only [List.setIfInBounds_toArray, List.set_cons_succ, List.set_cons_zero]
                  (apply regi_take hF 5 rfl rfl (by decide +kernel) rfl); (rintro w' ⟨⟨h1, h2⟩, h3, h4⟩; go_simp; rfl); exact hS; simp only [List.setIfInBounds_toArray, List.set_cons_succ, List.set_cons_zero]
                  (apply regi_take hF 6 rfl rfl (by decide +kernel) rfl); (rintro w' ⟨⟨h1, h2⟩, h3, h4⟩; go_simp; rfl); exact hS; simp only [List.setIfInBounds_toArray, List.set_cons_succ, List.set_cons_zero]
                  (apply regi_take hF 7 rfl rfl (by decide +kernel) rfl); (rintro w' ⟨⟨h1, h2⟩, h3, h4⟩; go_simp; rfl); exact hS; simp only [List.setIfInBounds_toArray, List.set_cons_succ, List.set_cons_zero]
                  (apply regi_take hF 8 rfl rfl (by decide +kernel) rfl); (rintro w' ⟨⟨h1, h2⟩, h3, h4⟩; go_simp; rfl); exact hS; simp only [List.setIfInBounds_toArray, List.set_cons_succ, List.set_cons_zero]
                  (apply regi_take hF 9 rfl rfl (by decide +kernel) rfl); (rintro w' ⟨⟨h1, h2⟩, h3, h4⟩; go_simp; rfl); exact hS; simp only [List.setIfInBounds_toArray, List.set_cons_succ, List.set_cons_zero]
                  (apply regi_take hF 10 rfl rfl (by decide +kernel) rfl); (rintro w' ⟨⟨h1, h2⟩, h3, h4⟩; go_simp; rfl); exact hS; simp only [List.setIfInBounds_toArray, List.set_cons_succ, List.set_cons_zero]
                  (apply regi_take hF 11 rfl rfl (by decide +kernel) rfl); (rintro w' ⟨⟨h1, h2⟩, h3, h4⟩; go_simp; rfl); exact hS; simp only [List.setIfInBounds_toArray, List.set_cons_succ, List.set_cons_zero]
                  (apply regi_take hF 12 rfl rfl (by decide +kernel) rfl); (rintro w' ⟨⟨h1, h2⟩, h3, h4⟩; go_simp; rfl); exact hS; simp only [List.setIfInBounds_toArray, List.set_cons_succ, List.set_cons_zero]
                  (apply regi_take hF 13 rfl rfl (by decide +kernel) rfl); (rintro w' ⟨⟨h1, h2⟩, h3, h4⟩; go_simp; rfl); exact hS; simp only [List.setIfInBounds_toArray, List.set_cons_succ, List.set_cons_zero]
                  (apply regi_take hF 14 rfl rfl (by decide +kernel) rfl); (rintro w' ⟨⟨h1, h2⟩, h3, h4⟩; go_simp; rfl); exact hS; simp only [List.setIfInBounds_toArray, List.set_cons_succ, List.set_cons_zero]
                  (apply regi_take hF 15 rfl rfl (by decide +kernel) rfl); (rintro w' ⟨⟨h1, h2⟩, h3, h4⟩; go_simp; rfl); exact hS; simp only [List.setIfInBounds_toArray, List.set_cons_succ, List.set_cons_zero]
                  (apply regi_take hF 16 rfl rfl (by decide +kernel) rfl); (rintro w' ⟨⟨h1, h2⟩, h3, h4⟩; go_simp; rfl); exact hS; simp only [List.setIfInBounds_toArray, List.set_cons_succ, List.set_cons_zero]
                  (apply regi_take hF 17 rfl rfl (by decide +kernel) rfl); (rintro w' ⟨⟨h1, h2⟩, h3, h4⟩; go_simp; rfl); exact hS; simp only [List.setIfInBounds_toArray, List.set_cons_succ, List.set_cons_zero]
                  (apply regi_take hF 18 rfl rfl (by decide +kernel) rfl); (rintro w' ⟨⟨h1, h2⟩, h3, h4⟩; go_simp; rfl); exact hS; simp only [List.setIfInBounds_toArray, List.set_cons_succ, List.set_cons_zero]
                  (apply regi_take hF 19 rfl rfl (by decide +kernel) rfl); (rintro w' ⟨⟨h1, h2⟩, h3, h4⟩; go_simp; rfl); exact hS; simp only [List.setIfInBounds_toArray, List.set_cons_succ, List.set_cons_zero]
                  (apply regi_take hF 20 rfl rfl (by decide +kernel) rfl); (rintro w' ⟨⟨h1, h2⟩, h3, h4⟩; go_simp; rfl); exact hS; simp only [List.setIfInBounds_toArray, List.set_cons_succ, List.set_cons_zero]
                  (apply regi_take hF 21 rfl rfl (by decide +kernel) rfl); (rintro w' ⟨⟨h1, h2⟩, h3, h4⟩; go_simp; rfl); exact hS; simp only [List.setIfInBounds_toArray, List.set_cons_succ, List.set_cons_zero]
                  (apply regi_take hF 22 rfl rfl (by decide +kernel) rfl); (rintro w' ⟨⟨h1, h2⟩, h3, h4⟩; go_simp; rfl); exact hS; simp only [List.setIfInBounds_toArray, List.set_cons_succ, List.set_cons_zero]
                  (apply regi_take hF 23 rfl rfl (by decide +kernel) rfl); (rintro w' ⟨⟨h1, h2⟩, h3, h4⟩; go_simp; rfl); exact hS; simp only [List.setIfInBounds_toArray, List.set_cons_succ, List.set_cons_zero]
                  (apply regi_take hF 24 rfl rfl (by decide +kernel) rfl); (rintro w' ⟨⟨h1, h2⟩, h3, h4⟩; go_simp; rfl); exact hS; simp only [List.setIfInBounds_toArray, List.set_cons_succ, List.set_cons_zero]
                  (apply regi_take hF 25 rfl rfl (by decide +kernel) rfl); (rintro w' ⟨⟨h1, h2⟩, h3, h4⟩; go_simp; rfl); exact hS; simp only [List.setIfInBounds_toArray, List.set_cons_succ, List.set_cons_zero]
                  (apply regi_take hF 26 rfl rfl (by decide +kernel) rfl); (rintro w' ⟨⟨h1, h2⟩, h3, h4⟩; go_simp; rfl); exact hS; simp only [List.setIfInBounds_toArray, List.set_cons_succ, List.set_cons_zero]
                  (apply regi_take hF 27 rfl rfl (by decide +kernel) rfl); (rintro w' ⟨⟨h1, h2⟩, h3, h4⟩; go_simp; rfl); exact hS; simp only [List.setIfInBounds_toArray, List.set_cons_succ, List.set_cons_zero]
                  (apply regi_take hF 28 rfl rfl (by decide +kernel) rfl); (rintro w' ⟨⟨h1, h2⟩, h3, h4⟩; go_simp; rfl); exact hS; simp only [List.setIfInBounds_toArray, List.set_cons_succ, List.set_cons_zero]
                  refine regi_done (by decide +kernel) ?_
                  have hJd : J (pre ++ itemsF (k * 1) first (dm ma mb)) w'.drew := hG _ _ _ hJs ⟨rfl, rfl, rfl, Nat.le_refl _, fun _ _ _ => rfl⟩
                  have hkd : KeepT TNode n₀ W2 w'.drew := hkw.trans (KeepT.drew _ _ _)
                  clear hS hbit hx a0 b0 a17 b17
                  gi_wp2
                  refine ⟨⟨⟨k + 1, _, by omega, HN.out, rfl, by rw [HXS.out]; exact hJd, hkd⟩⟩, ?_⟩
                  simp only [intOf]
                  have := Nat.and_le_right (n := both) (m := both - 1)
                  omega
                · have HDM := Lib.hid (dm_some (m := ma) (m' := mb) (i := k) (by rw [hma, hmb]; simpa using hxy))
                  have hxy2 : (xa == xb) = false := by simpa using hxy
                  refine regi_begin (fun w' => (w'.cell? ⟨ba, 0, none⟩ = some (.int .u16 (hsa : Int)) ∧ w'.cell? ⟨bb, 0, none⟩ = some (.int .u16 (hsb : Int))) ∧ w'.cell? ⟨ba, 17 + k, none⟩ = some (.int .i64 xa) ∧ w'.cell? ⟨bb, 17 + k, none⟩ = some (.int .i64 xb)) (by kernel_rfl) ?_
                  (apply regi_take hF 0 rfl rfl (by decide +kernel) rfl); (rintro w' ⟨⟨h1, h2⟩, h3, h4⟩; go_simp; rfl); exact hS; simp only [List.setIfInBounds_toArray, List.set_cons_succ, List.set_cons_zero]
                  (apply regi_take hF 1 rfl rfl (by decide +kernel) rfl); (rintro w' ⟨⟨h1, h2⟩, h3, h4⟩; go_simp; rfl); exact hS; simp only [List.setIfInBounds_toArray, List.set_cons_succ, List.set_cons_zero]
                  (apply regi_take hF 2 rfl rfl (by decide +kernel) rfl); (rintro w' ⟨⟨h1, h2⟩, h3, h4⟩; go_simp; rfl); exact hS; simp only [List.setIfInBounds_toArray, List.set_cons_succ, List.set_cons_zero]
                  (apply regi_take hF 3 rfl rfl (by decide +kernel) rfl); (rintro w' ⟨⟨h1, h2⟩, h3, h4⟩; go_simp; rfl); exact hS; simp only [List.setIfInBounds_toArray, List.set_cons_succ, List.set_cons_zero]
                  (apply regi_take hF 4 rfl rfl (by decide +kernel) rfl); (rintro w' ⟨⟨h1, h2⟩, h3, h4⟩; go_simp; rfl); exact hS; simp only [List.setIfInBounds_toArray, List.set_cons_succ, List.set_cons_zero]
                  (apply regi_take hF 5 rfl rfl (by decide +kernel) rfl); (rintro w' ⟨⟨h1, h2⟩, h3, h4⟩; go_simp; rfl); exact hS; simp only [List.setIfInBounds_toArray, List.set_cons_succ, List.set_cons_zero]
                  (apply regi_take hF 6 rfl rfl (by decide +kernel) rfl); (rintro w' ⟨⟨h1, h2⟩, h3, h4⟩; go_simp; rfl); exact hS; simp only [List.setIfInBounds_toArray, List.set_cons_succ, List.set_cons_zero]
                  (apply regi_take hF 7 rfl rfl (by decide +kernel) rfl); (rintro w' ⟨⟨h1, h2⟩, h3, h4⟩; go_simp; rfl); exact hS; simp only [List.setIfInBounds_toArray, List.set_cons_succ, List.set_cons_zero]
                  (apply regi_take hF 8 rfl rfl (by decide +kernel) rfl); (rintro w' ⟨⟨h1, h2⟩, h3, h4⟩; go_simp; rfl); exact hS; simp only [List.setIfInBounds_toArray, List.set_cons_succ, List.set_cons_zero]
                  (apply regi_take hF 9 rfl rfl (by decide +kernel) rfl); (rintro w' ⟨⟨h1, h2⟩, h3, h4⟩; go_simp; rfl); exact hS; simp only [List.setIfInBounds_toArray, List.set_cons_succ, List.set_cons_zero]
                  (apply regi_take hF 10 rfl rfl (by decide +kernel) rfl); (rintro w' ⟨⟨h1, h2⟩, h3, h4⟩; go_simp; rfl); exact hS; simp only [List.setIfInBounds_toArray, List.set_cons_succ, List.set_cons_zero]
                  (apply regi_take hF 11 rfl rfl (by decide +kernel) rfl); (rintro w' ⟨⟨h1, h2⟩, h3, h4⟩; go_simp; rfl); exact hS; simp only [List.setIfInBounds_toArray, List.set_cons_succ, List.set_cons_zero]
                  (apply regi_take hF 12 rfl rfl (by decide +kernel) rfl); (rintro w' ⟨⟨h1, h2⟩, h3, h4⟩; go_simp; rfl); exact hS; simp only [List.setIfInBounds_toArray, List.set_cons_succ, List.set_cons_zero]
                  (apply regi_take hF 13 rfl rfl (by decide +kernel) rfl); (rintro w' ⟨⟨h1, h2⟩, h3, h4⟩; go_simp; rfl); exact hS; simp only [List.setIfInBounds_toArray, List.set_cons_succ, List.set_cons_zero]
                  (apply regi_take hF 14 rfl rfl (by decide +kernel) rfl); (rintro w' ⟨⟨h1, h2⟩, h3, h4⟩; go_simp; rfl); exact hS; simp only [List.setIfInBounds_toArray, List.set_cons_succ, List.set_cons_zero]
                  (apply regi_take hF 15 rfl rfl (by decide +kernel) rfl); (rintro w' ⟨⟨h1, h2⟩, h3, h4⟩; go_simp; rfl); exact hS; simp only [List.setIfInBounds_toArray, List.set_cons_succ, List.set_cons_zero]
                  (apply regi_take hF 16 rfl rfl (by decide +kernel) rfl); (rintro w' ⟨⟨h1, h2⟩, h3, h4⟩; go_simp; rfl); exact hS; simp only [List.setIfInBounds_toArray, List.set_cons_succ, List.set_cons_zero]
                  (apply regi_take hF 17 rfl rfl (by decide +kernel) rfl); (rintro w' ⟨⟨h1, h2⟩, h3, h4⟩; go_simp; rfl); exact hS; simp only [List.setIfInBounds_toArray, List.set_cons_succ, List.set_cons_zero]
                  (apply regi_take hF 18 rfl rfl (by decide +kernel) rfl); (rintro w' ⟨⟨h1, h2⟩, h3, h4⟩; go_simp; rfl); exact hS; simp only [List.setIfInBounds_toArray, List.set_cons_succ, List.set_cons_zero]
                  (apply regi_take hF 19 rfl rfl (by decide +kernel) rfl); (rintro w' ⟨⟨h1, h2⟩, h3, h4⟩; go_simp; rfl); exact hS; simp only [List.setIfInBounds_toArray, List.set_cons_succ, List.set_cons_zero]
                  (apply regi_take hF 20 rfl rfl (by decide +kernel) rfl); (rintro w' ⟨⟨h1, h2⟩, h3, h4⟩; go_simp; rfl); exact hS; simp only [List.setIfInBounds_toArray, List.set_cons_succ, List.set_cons_zero]
                  (apply regi_take hF 21 rfl rfl (by decide +kernel) rfl); (rintro w' ⟨⟨h1, h2⟩, h3, h4⟩; go_simp; rfl); exact hS; simp only [List.setIfInBounds_toArray, List.set_cons_succ, List.set_cons_zero]
                  (apply regi_take hF 22 rfl rfl (by decide +kernel) rfl); (rintro w' ⟨⟨h1, h2⟩, h3, h4⟩; go_simp; rfl); exact hS; simp only [List.setIfInBounds_toArray, List.set_cons_succ, List.set_cons_zero]
                  (apply regi_take hF 23 rfl rfl (by decide +kernel) rfl); (rintro w' ⟨⟨h1, h2⟩, h3, h4⟩; go_simp; rfl); exact hS; simp only [List.setIfInBounds_toArray, List.set_cons_succ, List.set_cons_zero]
                  (apply regi_take hF 24 rfl rfl (by decide +kernel) rfl); (rintro w' ⟨⟨h1, h2⟩, h3, h4⟩; go_simp; rfl); exact hS; simp only [List.setIfInBounds_toArray, List.set_cons_succ, List.set_cons_zero]
                  (apply regi_take hF 25 rfl rfl (by decide +kernel) rfl); (rintro w' ⟨⟨h1, h2⟩, h3, h4⟩; go_simp; rfl); exact hS; simp only [List.setIfInBounds_toArray, List.set_cons_succ, List.set_cons_zero]
                  (apply regi_take hF 26 rfl rfl (by decide +kernel) rfl); (rintro w' ⟨⟨h1, h2⟩, h3, h4⟩; go_simp; rfl); exact hS; simp only [List.setIfInBounds_toArray, List.set_cons_succ, List.set_cons_zero]
                  (apply regi_take hF 27 rfl rfl (by decide +kernel) rfl); (rintro w' ⟨⟨h1, h2⟩, h3, h4⟩; go_simp; rfl); exact hS; simp only [List.setIfInBounds_toArray, List.set_cons_succ, List.set_cons_zero]
                  (apply regi_take hF 28 rfl rfl (by decide +kernel) rfl); (rintro w' ⟨⟨h1, h2⟩, h3, h4⟩; go_simp; rfl); exact hS; simp only [List.setIfInBounds_toArray, List.set_cons_succ, List.set_cons_zero]
                  refine regi_done (by decide +kernel) ?_
                  have hJd : J (pre ++ itemsF (k * 1) first (dm ma mb)) w'.drew := hG _ _ _ hJs ⟨rfl, rfl, rfl, Nat.le_refl _, fun _ _ _ => rfl⟩
                  have hx : itemsF ((k + 1) * 1) first (dm ma mb) = itemsF (k * 1) first (dm ma mb) ++ [(first + k, 0)] := by rw [Nat.mul_one, Nat.mul_one, itemsF_some HDM.out]
                  have hlen := itemsF_lenle (m := dm ma mb) (first := first) (a := (k + 1) * 1) (b := 16) (by omega)
                  obtain ⟨fn, tmps, assign, body, hy, hR⟩ := HYY.out (n - 1) (pre ++ itemsF (k * 1) first (dm ma mb)) (first + k, 0) w'.drew hJd (by have := HNN.out; rw [hx] at hlen; simp at hlen ⊢; omega)
                  dsimp only at hy
                  rw [Int.natCast_add] at hy
                  have HXS := Lib.hid hx
                  have hkd : KeepT TNode n₀ W2 w'.drew := hkw.trans (KeepT.drew _ _ _)
                  clear hS hbit hx hlen a0 b0 a17 b17 hJd
                  gi_wp2_with ((try refine ⟨hdd _, ?_⟩); refine hR.mono ?_; clear hR; rintro e W3 (⟨rfl, hJ3, hb3⟩ | ⟨rfl, hJx3⟩))
                  · refine ⟨⟨⟨k + 1, _, by omega, HN.out, rfl, by rw [HXS.out, ← List.append_assoc]; exact hJ3, hkd.trans hb3⟩⟩, ?_⟩
                    simp only [intOf]
                    have := Nat.and_le_right (n := both) (m := both - 1)
                    omega
                  · go_ret
                    exact .inr ⟨rfl, itemsF (k * 1) first (dm ma mb) ++ [(first + k, 0)], by rw [← HXS.out]; exact itemsF_prefix (by omega), by rw [← List.append_assoc]; exact hJx3⟩
      | some ab =>
        obtain ⟨bb, rfl, -, -, -⟩ := NodeOk.block hnb
        have hne : ba ≠ bb := fun e => hab (by rw [e])
        have heq : (binOp .eql 78 (.pointer (some ⟨ba, 0, none⟩)) (.pointer (some ⟨bb, 0, none⟩))).run Tryz.prog W = .ok (.bool false) W := by
          obtain ⟨ca, h1⟩ := NodeV.cells (NodeV.of hna)
          obtain ⟨cb, h2⟩ := NodeV.cells (NodeV.of hnb)
          exact eql_other hne h1 h2
        obtain ⟨bz, hbz⟩ : ∃ b, b = W.heap.size := ⟨_, rfl⟩
        obtain ⟨W1, hW1⟩ : ∃ W1, W1 = W.alloc (.cells (nodeC 0 nils zers) TNode) := ⟨_, rfl⟩
        have hK1 : KeepT TNode n₀ W W1 := by rw [hW1]; exact (KeepT.refl _ _ W).alloc hsz _
        have hJ1 : J pre W1 := by rw [hW1]; exact hG _ _ _ hJ (World.grownBy_alloc W _ none)
        have hT1 : TabW W1 := hT.keep (hK1.bel.block 0 hn0)
        have hA1 := NodeV.keep hK1 (NodeV.of hna)
        have hB1 := NodeV.keep hK1 (NodeV.of hnb)
        have hs1 : n₀ ≤ W1.heap.size := Nat.le_trans hsz hK1.bel.size
        have HP := Lib.hid (And.intro hW1 (And.intro hK1 (And.intro hJ1 (And.intro hT1 (And.intro hA1 (And.intro hB1 (And.intro hs1 hbz)))))))
        have HYY := Lib.hid hY
        have HNN := Lib.hid hN
        have hor := u16_or_nat (has0 ma) (has0 mb) (has0_lt ma) (has0_lt mb)
        clear hna hnb hT hab hJ hY hN hW1 hK1 hJ1 hT1 hA1 hB1 hs1 hbz
        gi_wp2
        obtain ⟨hW1, hK1, hJ1, hT1, hA1, hB1, hs1, hbz⟩ := HP.out
        change Code.wpIn F n Tryz.prog _ _ _ (W.alloc (.cells (nodeC 0 nils zers) TNode))
        rw [← hW1, ← hbz]
        clear hW1 HP hbz
        obtain ⟨a0, -, -⟩ := nodeC_at hA1 rfl
        obtain ⟨b0, -, -⟩ := nodeC_at hB1 rfl
        have hS : W1.drew.cell? ⟨ba, 0, none⟩ = some (.int .u16 ((has0 ma) : Int)) ∧ W1.drew.cell? ⟨bb, 0, none⟩ = some (.int .u16 ((has0 mb) : Int)) := ⟨a0, b0⟩
        refine regi_begin (fun w' => w'.cell? ⟨ba, 0, none⟩ = some (.int .u16 ((has0 ma) : Int)) ∧ w'.cell? ⟨bb, 0, none⟩ = some (.int .u16 ((has0 mb) : Int))) (by kernel_rfl) ?_
        (apply regi_take hF 0 rfl rfl (by decide +kernel) rfl); (rintro w' ⟨h1, h2⟩; go_simp; rfl); exact hS; simp only [List.setIfInBounds_toArray, List.set_cons_succ, List.set_cons_zero]
        (apply regi_take hF 1 rfl rfl (by decide +kernel) rfl); (rintro w' ⟨h1, h2⟩; go_simp; rfl); exact hS; simp only [List.setIfInBounds_toArray, List.set_cons_succ, List.set_cons_zero]
        (apply regi_take hF 2 rfl rfl (by decide +kernel) rfl); (rintro w' ⟨h1, h2⟩; go_simp; rfl); exact hS; simp only [List.setIfInBounds_toArray, List.set_cons_succ, List.set_cons_zero]
        (apply regi_take hF 3 rfl rfl (by decide +kernel) rfl); (rintro w' ⟨h1, h2⟩; go_simp; rfl); exact hS; simp only [List.setIfInBounds_toArray, List.set_cons_succ, List.set_cons_zero]
        (apply regi_take hF 4 rfl rfl (by decide +kernel) rfl); (rintro w' ⟨h1, h2⟩; go_simp; rfl); exact hS; simp only [List.setIfInBounds_toArray, List.set_cons_succ, List.set_cons_zero]
        (apply regi_take hF 5 rfl rfl (by decide +kernel) rfl); (rintro w' ⟨h1, h2⟩; go_simp; rfl); exact hS; simp only [List.setIfInBounds_toArray, List.set_cons_succ, List.set_cons_zero]
        (apply regi_take hF 6 rfl rfl (by decide +kernel) rfl); (rintro w' ⟨h1, h2⟩; go_simp; rfl); exact hS; simp only [List.setIfInBounds_toArray, List.set_cons_succ, List.set_cons_zero]
        (apply regi_take hF 7 rfl rfl (by decide +kernel) rfl); (rintro w' ⟨h1, h2⟩; go_simp; rfl); exact hS; simp only [List.setIfInBounds_toArray, List.set_cons_succ, List.set_cons_zero]
        (apply regi_take hF 8 rfl rfl (by decide +kernel) rfl); (rintro w' ⟨h1, h2⟩; go_simp; rfl); exact hS; simp only [List.setIfInBounds_toArray, List.set_cons_succ, List.set_cons_zero]
        (apply regi_take hF 9 rfl rfl (by decide +kernel) rfl); (rintro w' ⟨h1, h2⟩; go_simp; rfl); exact hS; simp only [List.setIfInBounds_toArray, List.set_cons_succ, List.set_cons_zero]
        refine regi_done (by decide +kernel) ?_
        clear hS a0 b0
        have hK2 : KeepT TNode n₀ W W1.drew := hK1.trans (KeepT.drew _ _ _)
        have hJ2 : J pre W1.drew := hG _ _ _ hJ1 ⟨rfl, rfl, rfl, Nat.le_refl _, fun _ _ _ => rfl⟩
        have hT2 : TabW W1.drew := hT1
        have hA2 : NodeV TNode (· < n₀) W1.drew 0 ba ma := NodeV.keep (KeepT.drew _ _ _) hA1
        have hB2 : NodeV TNode (· < n₀) W1.drew 0 bb mb := NodeV.keep (KeepT.drew _ _ _) hB1
        have hs2 : n₀ ≤ W1.drew.heap.size := hs1
        clear hK1 hJ1 hT1 hA1 hB1 hs1
        generalize W1.drew = W2 at *
        have hst : DiffSt n₀ J 1 first ((has0 ma) ||| (has0 mb)) (dm ma mb) pre W2 (.int .u16 (((has0 ma) ||| (has0 mb) : Nat) : Int)) W2 := ⟨⟨0, _, by omega, BitsFrom.start (Nat.or_lt_two_pow (n := 16) (has0_lt ma) (has0_lt mb)), rfl, by rw [Nat.zero_mul, itemsF_zero, List.append_nil]; exact hJ2, KeepT.refl _ _ _⟩⟩
        have HP := Lib.hid (And.intro hK2 (And.intro hT2 (And.intro hA2 (And.intro hB2 hs2))))
        have HST := Lib.hid hst
        clear hK2 hT2 hA2 hB2 hs2 hJ2 hst hor
        gi_wp2
        gi_loopw [12, 13, 14, 45, 66] (fun v _ _ _ _ wr => DiffSt n₀ J 1 first ((has0 ma) ||| (has0 mb)) (dm ma mb) pre W2 v wr) (fun v _ _ _ _ _ => (intOf v).toNat)
        case atStart => exact HST.out
        case round =>
          clear HST
          obtain ⟨j, both, hj, hbf, rfl, hJs, hkw⟩ := hrel.st
          clear hrel
          by_cases hb0 : both = 0
          · subst hb0
            have hz := hbf.zero
            have hx : itemsF 16 first (dm ma mb) = itemsF (j * 1) first (dm ma mb) := by
              rw [Nat.mul_one, show 16 = j + (16 - j) by omega]
              refine itemsF_skip _ fun i h1 h2 => dm_none ?_
              have h3 := hz i h1
              rw [Nat.testBit_or, has0_bit ma (by omega), has0_bit mb (by omega)] at h3
              revert h3
              cases ma i <;> cases mb i <;> simp
            have HX := Lib.hid hx
            have hdone := HP.out.1.trans hkw
            clear hz hx hbf
            gi_wp2
            go_ret
            exact .inl ⟨rfl, by rw [HX.out]; exact hJs, hdone⟩
          · have htz := tz16_any both hb0 hbf.lt wr (HP.out.2.1.keep (hkw.bel.block 0 hn0))
            obtain ⟨hjk, hk16, hbk, hskip, hnext⟩ := hbf.next hb0
            have hA3 := NodeV.keep hkw HP.out.2.2.1
            have hB3 := NodeV.keep hkw HP.out.2.2.2.1
            have hbl := hbf.lt
            generalize Lib.ctz 16 both = k at *
            have hand := u16_and_nat both (both - 1) hbl (by omega)
            have hsub : ((both - 1 : Nat) : Int) = (both : Int) - 1 := by omega
            rw [hsub] at hand
            have hxk : itemsF (k * 1) first (dm ma mb) = itemsF (j * 1) first (dm ma mb) := by
              rw [Nat.mul_one, Nat.mul_one, show k = j + (k - j) by omega]
              refine itemsF_skip _ fun i h1 h2 => dm_none ?_
              have h3 := hskip i h1 (by omega)
              rw [Nat.testBit_or, has0_bit ma (by omega), has0_bit mb (by omega)] at h3
              revert h3
              cases ma i <;> cases mb i <;> simp
            rw [← hxk] at hJs
            have HXK := Lib.hid hxk
            have HTZ := Lib.hid htz
            have HN := Lib.hid hnext
            have hki : (k : Int) < 16 := by omega
            have hbi : ((both : Int) == 0) = false := by simpa using hb0
            have hb1 : (1 : Int) ≤ (both : Int) := by omega
            obtain ⟨a0, -, a2⟩ := nodeC_at hA3 rfl
            obtain ⟨b0, -, b2⟩ := nodeC_at hB3 rfl
            have a17 := a2 k _ (chs_at ma hk16)
            have b17 := b2 k _ (chs_at mb hk16)
            have hxor := u16_xor_nat (has0 ma) (has0 mb) (has0_lt ma) (has0_lt mb)
            have hbit := bit1 (has0 ma ^^^ has0 mb) k (Nat.xor_lt_two_pow (n := 16) (has0_lt ma) (has0_lt mb))
            rw [Nat.testBit_xor, has0_bit ma hk16, has0_bit mb hk16] at hbit
            rw [Nat.testBit_or, has0_bit ma hk16, has0_bit mb hk16] at hbk
            generalize has0 ma = hsa at *
            generalize has0 mb = hsb at *
            clear hskip hnext hbf htz hsub a2 b2 hA3 hB3 hxk
            gi_upto_region 16 with (first | ((try refine ⟨hdd _, ?_⟩); gi_at_call 105; refine (hF.calls _ _ _ _ _ HTZ.out).mono ?_; rintro e w' ⟨rfl, rfl⟩))
            cases hma : ma k with
            | none => cases hmb : mb k with
              | none => rw [hma, hmb] at hbk; cases hbk
              | some xb =>
                have HDM := Lib.hid (dm_some (m := ma) (m' := mb) (i := k) (by rw [hma, hmb]; simp))
                rw [hma, hmb] at hbit
                have hbit2 : bits .and .u16 (((hsa ^^^ hsb : Nat) : Int) / 2 ^ k) 1 = 1 := hbit
                have hS : w'.drew.cell? ⟨ba, 0, none⟩ = some (.int .u16 (hsa : Int)) ∧ w'.drew.cell? ⟨bb, 0, none⟩ = some (.int .u16 (hsb : Int)) := ⟨a0, b0⟩
                refine regi_begin (fun w' => w'.cell? ⟨ba, 0, none⟩ = some (.int .u16 (hsa : Int)) ∧ w'.cell? ⟨bb, 0, none⟩ = some (.int .u16 (hsb : Int))) (by kernel_rfl) ?_
                (apply regi_take hF 0 rfl rfl (by decide +kernel) rfl); (rintro w' ⟨h1, h2⟩; go_simp; rfl); exact hS; simp only [List.setIfInBounds_toArray, List.set_cons_succ, List.set_cons_zero]
                (apply regi_take hF 1 rfl rfl (by decide +kernel) rfl); (rintro w' ⟨h1, h2⟩; go_simp; rfl); exact hS; simp only [List.setIfInBounds_toArray, List.set_cons_succ, List.set_cons_zero]
                (apply regi_take hF 2 rfl rfl (by decide +kernel) rfl); (rintro w' ⟨h1, h2⟩; go_simp; rfl); exact hS; simp only [List.setIfInBounds_toArray, List.set_cons_succ, List.set_cons_zero]
                (apply regi_take hF 3 rfl rfl (by decide +kernel) rfl); (rintro w' ⟨h1, h2⟩; go_simp; rfl); exact hS; simp only [List.setIfInBounds_toArray, List.set_cons_succ, List.set_cons_zero]
                (apply regi_take hF 4 rfl rfl (by decide +kernel) rfl); (rintro w' ⟨h1, h2⟩; go_simp; rfl); exact hS; simp only [List.setIfInBounds_toArray, List.set_cons_succ, List.set_cons_zero]
                (apply regi_take hF 5 rfl rfl (by decide +kernel) rfl); (rintro w' ⟨h1, h2⟩; go_simp; rfl); exact hS; simp only [List.setIfInBounds_toArray, List.set_cons_succ, List.set_cons_zero]
                (apply regi_take hF 6 rfl rfl (by decide +kernel) rfl); (rintro w' ⟨h1, h2⟩; go_simp; rfl); exact hS; simp only [List.setIfInBounds_toArray, List.set_cons_succ, List.set_cons_zero]
                (apply regi_take hF 7 rfl rfl (by decide +kernel) rfl); (rintro w' ⟨h1, h2⟩; go_simp; rfl); exact hS; simp only [List.setIfInBounds_toArray, List.set_cons_succ, List.set_cons_zero]
                (apply regi_take hF 8 rfl rfl (by decide +kernel) rfl); (rintro w' ⟨h1, h2⟩; go_simp; rfl); exact hS; simp only [List.setIfInBounds_toArray, List.set_cons_succ, List.set_cons_zero]
                (apply regi_take hF 9 rfl rfl (by decide +kernel) rfl); (rintro w' ⟨h1, h2⟩; go_simp; rfl); exact hS; simp only [List.setIfInBounds_toArray, List.set_cons_succ, List.set_cons_zero]
                (apply regi_take hF 10 rfl rfl (by decide +kernel) rfl); (rintro w' ⟨h1, h2⟩; go_simp; rfl); exact hS; simp only [List.setIfInBounds_toArray, List.set_cons_succ, List.set_cons_zero]
                (apply regi_take hF 11 rfl rfl (by decide +kernel) rfl); (rintro w' ⟨h1, h2⟩; go_simp; rfl); exact hS; simp only [List.setIfInBounds_toArray, List.set_cons_succ, List.set_cons_zero]
                (apply regi_take hF 12 rfl rfl (by decide +kernel) rfl); (rintro w' ⟨h1, h2⟩; go_simp; rfl); exact hS; simp only [List.setIfInBounds_toArray, List.set_cons_succ, List.set_cons_zero]
                (apply regi_take hF 13 rfl rfl (by decide +kernel) rfl); (rintro w' ⟨h1, h2⟩; go_simp; rfl); exact hS; simp only [List.setIfInBounds_toArray, List.set_cons_succ, List.set_cons_zero]
                refine regi_skip hF 14 rfl rfl (by decide +kernel) rfl hS ?_; simp only [List.setIfInBounds_toArray, List.set_cons_succ, List.set_cons_zero]
                refine regi_skip hF 15 rfl rfl (by decide +kernel) rfl hS ?_; simp only [List.setIfInBounds_toArray, List.set_cons_succ, List.set_cons_zero]
                refine regi_skip hF 16 rfl rfl (by decide +kernel) rfl hS ?_; simp only [List.setIfInBounds_toArray, List.set_cons_succ, List.set_cons_zero]
                refine regi_skip hF 17 rfl rfl (by decide +kernel) rfl hS ?_; simp only [List.setIfInBounds_toArray, List.set_cons_succ, List.set_cons_zero]
                refine regi_skip hF 18 rfl rfl (by decide +kernel) rfl hS ?_; simp only [List.setIfInBounds_toArray, List.set_cons_succ, List.set_cons_zero]
                refine regi_skip hF 19 rfl rfl (by decide +kernel) rfl hS ?_; simp only [List.setIfInBounds_toArray, List.set_cons_succ, List.set_cons_zero]
                refine regi_skip hF 20 rfl rfl (by decide +kernel) rfl hS ?_; simp only [List.setIfInBounds_toArray, List.set_cons_succ, List.set_cons_zero]
                refine regi_skip hF 21 rfl rfl (by decide +kernel) rfl hS ?_; simp only [List.setIfInBounds_toArray, List.set_cons_succ, List.set_cons_zero]
                refine regi_skip hF 22 rfl rfl (by decide +kernel) rfl hS ?_; simp only [List.setIfInBounds_toArray, List.set_cons_succ, List.set_cons_zero]
                refine regi_skip hF 23 rfl rfl (by decide +kernel) rfl hS ?_; simp only [List.setIfInBounds_toArray, List.set_cons_succ, List.set_cons_zero]
                refine regi_skip hF 24 rfl rfl (by decide +kernel) rfl hS ?_; simp only [List.setIfInBounds_toArray, List.set_cons_succ, List.set_cons_zero]
                refine regi_skip hF 25 rfl rfl (by decide +kernel) rfl hS ?_; simp only [List.setIfInBounds_toArray, List.set_cons_succ, List.set_cons_zero]
                refine regi_skip hF 26 rfl rfl (by decide +kernel) rfl hS ?_; simp only [List.setIfInBounds_toArray, List.set_cons_succ, List.set_cons_zero]
                (apply regi_take hF 27 rfl rfl (by decide +kernel) rfl); (rintro w' ⟨h1, h2⟩; go_simp; rfl); exact hS; simp only [List.setIfInBounds_toArray, List.set_cons_succ, List.set_cons_zero]
                (apply regi_take hF 28 rfl rfl (by decide +kernel) rfl); (rintro w' ⟨h1, h2⟩; go_simp; rfl); exact hS; simp only [List.setIfInBounds_toArray, List.set_cons_succ, List.set_cons_zero]
                refine regi_done (by decide +kernel) ?_
                have hJd : J (pre ++ itemsF (k * 1) first (dm ma mb)) w'.drew := hG _ _ _ hJs ⟨rfl, rfl, rfl, Nat.le_refl _, fun _ _ _ => rfl⟩
                have hx : itemsF ((k + 1) * 1) first (dm ma mb) = itemsF (k * 1) first (dm ma mb) ++ [(first + k, 0)] := by rw [Nat.mul_one, Nat.mul_one, itemsF_some HDM.out]
                have hlen := itemsF_lenle (m := dm ma mb) (first := first) (a := (k + 1) * 1) (b := 16) (by omega)
                obtain ⟨fn, tmps, assign, body, hy, hR⟩ := HYY.out (n - 1) (pre ++ itemsF (k * 1) first (dm ma mb)) (first + k, 0) w'.drew hJd (by have := HNN.out; rw [hx] at hlen; simp at hlen ⊢; omega)
                dsimp only at hy
                rw [Int.natCast_add] at hy
                have HXS := Lib.hid hx
                have hkd : KeepT TNode n₀ W2 w'.drew := hkw.trans (KeepT.drew _ _ _)
                clear hS hbit hx hlen a0 b0 a17 b17 hJd
                gi_wp2_with ((try refine ⟨hdd _, ?_⟩); refine hR.mono ?_; clear hR; rintro e W3 (⟨rfl, hJ3, hb3⟩ | ⟨rfl, hJx3⟩))
                · refine ⟨⟨⟨k + 1, _, by omega, HN.out, rfl, by rw [HXS.out, ← List.append_assoc]; exact hJ3, hkd.trans hb3⟩⟩, ?_⟩
                  simp only [intOf]
                  have := Nat.and_le_right (n := both) (m := both - 1)
                  omega
                · go_ret
                  exact .inr ⟨rfl, itemsF (k * 1) first (dm ma mb) ++ [(first + k, 0)], by rw [← HXS.out]; exact itemsF_prefix (by omega), by rw [← List.append_assoc]; exact hJx3⟩
            | some xa => cases hmb : mb k with
              | none =>
                have HDM := Lib.hid (dm_some (m := ma) (m' := mb) (i := k) (by rw [hma, hmb]; simp))
                rw [hma, hmb] at hbit
                have hbit2 : bits .and .u16 (((hsa ^^^ hsb : Nat) : Int) / 2 ^ k) 1 = 1 := hbit
                have hS : w'.drew.cell? ⟨ba, 0, none⟩ = some (.int .u16 (hsa : Int)) ∧ w'.drew.cell? ⟨bb, 0, none⟩ = some (.int .u16 (hsb : Int)) := ⟨a0, b0⟩
                refine regi_begin (fun w' => w'.cell? ⟨ba, 0, none⟩ = some (.int .u16 (hsa : Int)) ∧ w'.cell? ⟨bb, 0, none⟩ = some (.int .u16 (hsb : Int))) (by kernel_rfl) ?_
                (apply regi_take hF 0 rfl rfl (by decide +kernel) rfl); (rintro w' ⟨h1, h2⟩; go_simp; rfl); exact hS; simp only [List.setIfInBounds_toArray, List.set_cons_succ, List.set_cons_zero]
                (apply regi_take hF 1 rfl rfl (by decide +kernel) rfl); (rintro w' ⟨h1, h2⟩; go_simp; rfl); exact hS; simp only [List.setIfInBounds_toArray, List.set_cons_succ, List.set_cons_zero]
                (apply regi_take hF 2 rfl rfl (by decide +kernel) rfl); (rintro w' ⟨h1, h2⟩; go_simp; rfl); exact hS; simp only [List.setIfInBounds_toArray, List.set_cons_succ, List.set_cons_zero]
                (apply regi_take hF 3 rfl rfl (by decide +kernel) rfl); (rintro w' ⟨h1, h2⟩; go_simp; rfl); exact hS; simp only [List.setIfInBounds_toArray, List.set_cons_succ, List.set_cons_zero]
                (apply regi_take hF 4 rfl rfl (by decide +kernel) rfl); (rintro w' ⟨h1, h2⟩; go_simp; rfl); exact hS; simp only [List.setIfInBounds_toArray, List.set_cons_succ, List.set_cons_zero]
                (apply regi_take hF 5 rfl rfl (by decide +kernel) rfl); (rintro w' ⟨h1, h2⟩; go_simp; rfl); exact hS; simp only [List.setIfInBounds_toArray, List.set_cons_succ, List.set_cons_zero]
                (apply regi_take hF 6 rfl rfl (by decide +kernel) rfl); (rintro w' ⟨h1, h2⟩; go_simp; rfl); exact hS; simp only [List.setIfInBounds_toArray, List.set_cons_succ, List.set_cons_zero]
                (apply regi_take hF 7 rfl rfl (by decide +kernel) rfl); (rintro w' ⟨h1, h2⟩; go_simp; rfl); exact hS; simp only [List.setIfInBounds_toArray, List.set_cons_succ, List.set_cons_zero]
                (apply regi_take hF 8 rfl rfl (by decide +kernel) rfl); (rintro w' ⟨h1, h2⟩; go_simp; rfl); exact hS; simp only [List.setIfInBounds_toArray, List.set_cons_succ, List.set_cons_zero]
                (apply regi_take hF 9 rfl rfl (by decide +kernel) rfl); (rintro w' ⟨h1, h2⟩; go_simp; rfl); exact hS; simp only [List.setIfInBounds_toArray, List.set_cons_succ, List.set_cons_zero]
                (apply regi_take hF 10 rfl rfl (by decide +kernel) rfl); (rintro w' ⟨h1, h2⟩; go_simp; rfl); exact hS; simp only [List.setIfInBounds_toArray, List.set_cons_succ, List.set_cons_zero]
                (apply regi_take hF 11 rfl rfl (by decide +kernel) rfl); (rintro w' ⟨h1, h2⟩; go_simp; rfl); exact hS; simp only [List.setIfInBounds_toArray, List.set_cons_succ, List.set_cons_zero]
                (apply regi_take hF 12 rfl rfl (by decide +kernel) rfl); (rintro w' ⟨h1, h2⟩; go_simp; rfl); exact hS; simp only [List.setIfInBounds_toArray, List.set_cons_succ, List.set_cons_zero]
                (apply regi_take hF 13 rfl rfl (by decide +kernel) rfl); (rintro w' ⟨h1, h2⟩; go_simp; rfl); exact hS; simp only [List.setIfInBounds_toArray, List.set_cons_succ, List.set_cons_zero]
                refine regi_skip hF 14 rfl rfl (by decide +kernel) rfl hS ?_; simp only [List.setIfInBounds_toArray, List.set_cons_succ, List.set_cons_zero]
                refine regi_skip hF 15 rfl rfl (by decide +kernel) rfl hS ?_; simp only [List.setIfInBounds_toArray, List.set_cons_succ, List.set_cons_zero]
                refine regi_skip hF 16 rfl rfl (by decide +kernel) rfl hS ?_; simp only [List.setIfInBounds_toArray, List.set_cons_succ, List.set_cons_zero]
                refine regi_skip hF 17 rfl rfl (by decide +kernel) rfl hS ?_; simp only [List.setIfInBounds_toArray, List.set_cons_succ, List.set_cons_zero]
                refine regi_skip hF 18 rfl rfl (by decide +kernel) rfl hS ?_; simp only [List.setIfInBounds_toArray, List.set_cons_succ, List.set_cons_zero]
                refine regi_skip hF 19 rfl rfl (by decide +kernel) rfl hS ?_; simp only [List.setIfInBounds_toArray, List.set_cons_succ, List.set_cons_zero]
                refine regi_skip hF 20 rfl rfl (by decide +kernel) rfl hS ?_; simp only [List.setIfInBounds_toArray, List.set_cons_succ, List.set_cons_zero]
                refine regi_skip hF 21 rfl rfl (by decide +kernel) rfl hS ?_; simp only [List.setIfInBounds_toArray, List.set_cons_succ, List.set_cons_zero]
                refine regi_skip hF 22 rfl rfl (by decide +kernel) rfl hS ?_; simp only [List.setIfInBounds_toArray, List.set_cons_succ, List.set_cons_zero]
                refine regi_skip hF 23 rfl rfl (by decide +kernel) rfl hS ?_; simp only [List.setIfInBounds_toArray, List.set_cons_succ, List.set_cons_zero]
                refine regi_skip hF 24 rfl rfl (by decide +kernel) rfl hS ?_; simp only [List.setIfInBounds_toArray, List.set_cons_succ, List.set_cons_zero]
                refine regi_skip hF 25 rfl rfl (by decide +kernel) rfl hS ?_; simp only [List.setIfInBounds_toArray, List.set_cons_succ, List.set_cons_zero]
                refine regi_skip hF 26 rfl rfl (by decide +kernel) rfl hS ?_; simp only [List.setIfInBounds_toArray, List.set_cons_succ, List.set_cons_zero]
                (apply regi_take hF 27 rfl rfl (by decide +kernel) rfl); (rintro w' ⟨h1, h2⟩; go_simp; rfl); exact hS; simp only [List.setIfInBounds_toArray, List.set_cons_succ, List.set_cons_zero]
                (apply regi_take hF 28 rfl rfl (by decide +kernel) rfl); (rintro w' ⟨h1, h2⟩; go_simp; rfl); exact hS; simp only [List.setIfInBounds_toArray, List.set_cons_succ, List.set_cons_zero]
                refine regi_done (by decide +kernel) ?_
                have hJd : J (pre ++ itemsF (k * 1) first (dm ma mb)) w'.drew := hG _ _ _ hJs ⟨rfl, rfl, rfl, Nat.le_refl _, fun _ _ _ => rfl⟩
                have hx : itemsF ((k + 1) * 1) first (dm ma mb) = itemsF (k * 1) first (dm ma mb) ++ [(first + k, 0)] := by rw [Nat.mul_one, Nat.mul_one, itemsF_some HDM.out]
                have hlen := itemsF_lenle (m := dm ma mb) (first := first) (a := (k + 1) * 1) (b := 16) (by omega)
                obtain ⟨fn, tmps, assign, body, hy, hR⟩ := HYY.out (n - 1) (pre ++ itemsF (k * 1) first (dm ma mb)) (first + k, 0) w'.drew hJd (by have := HNN.out; rw [hx] at hlen; simp at hlen ⊢; omega)
                dsimp only at hy
                rw [Int.natCast_add] at hy
                have HXS := Lib.hid hx
                have hkd : KeepT TNode n₀ W2 w'.drew := hkw.trans (KeepT.drew _ _ _)
                clear hS hbit hx hlen a0 b0 a17 b17 hJd
                gi_wp2_with ((try refine ⟨hdd _, ?_⟩); refine hR.mono ?_; clear hR; rintro e W3 (⟨rfl, hJ3, hb3⟩ | ⟨rfl, hJx3⟩))
                · refine ⟨⟨⟨k + 1, _, by omega, HN.out, rfl, by rw [HXS.out, ← List.append_assoc]; exact hJ3, hkd.trans hb3⟩⟩, ?_⟩
                  simp only [intOf]
                  have := Nat.and_le_right (n := both) (m := both - 1)
                  omega
                · go_ret
                  exact .inr ⟨rfl, itemsF (k * 1) first (dm ma mb) ++ [(first + k, 0)], by rw [← HXS.out]; exact itemsF_prefix (by omega), by rw [← List.append_assoc]; exact hJx3⟩
              | some xb =>
                rw [hma, hmb] at hbit
                rw [hma] at a17
                rw [hmb] at b17
                have hbit2 : bits .and .u16 (((hsa ^^^ hsb : Nat) : Int) / 2 ^ k) 1 = 0 := hbit
                have hS : (w'.drew.cell? ⟨ba, 0, none⟩ = some (.int .u16 (hsa : Int)) ∧ w'.drew.cell? ⟨bb, 0, none⟩ = some (.int .u16 (hsb : Int))) ∧ w'.drew.cell? ⟨ba, 17 + k, none⟩ = some (.int .i64 xa) ∧ w'.drew.cell? ⟨bb, 17 + k, none⟩ = some (.int .i64 xb) := ⟨⟨a0, b0⟩, a17, b17⟩
                by_cases hxy : xa = xb
                · subst hxy
                  have hx : itemsF ((k + 1) * 1) first (dm ma mb) = itemsF (k * 1) first (dm ma mb) := by rw [Nat.mul_one, Nat.mul_one, itemsF_none (dm_none (by rw [hma, hmb]))]
                  have HXS := Lib.hid hx
                  refine regi_begin (fun w' => (w'.cell? ⟨ba, 0, none⟩ = some (.int .u16 (hsa : Int)) ∧ w'.cell? ⟨bb, 0, none⟩ = some (.int .u16 (hsb : Int))) ∧ w'.cell? ⟨ba, 17 + k, none⟩ = some (.int .i64 xa) ∧ w'.cell? ⟨bb, 17 + k, none⟩ = some (.int .i64 xa)) (by kernel_rfl) ?_
                  (apply regi_take hF 0 rfl rfl (by decide +kernel) rfl); (rintro w' ⟨⟨h1, h2⟩, h3, h4⟩; go_simp; rfl); exact hS; simp only [List.setIfInBounds_toArray, List.set_cons_succ, List.set_cons_zero]
                  (apply regi_take hF 1 rfl rfl (by decide +kernel) rfl); (rintro w' ⟨⟨h1, h2⟩, h3, h4⟩; go_simp; rfl); exact hS; simp only [List.setIfInBounds_toArray, List.set_cons_succ, List.set_cons_zero]
                  (apply regi_take hF 2 rfl rfl (by decide +kernel) rfl); (rintro w' ⟨⟨h1, h2⟩, h3, h4⟩; go_simp; rfl); exact hS; simp only [List.setIfInBounds_toArray, List.set_cons_succ, List.set_cons_zero]
                  (apply regi_take hF 3 rfl rfl (by decide +kernel) rfl); (rintro w' ⟨⟨h1, h2⟩, h3, h4⟩; go_simp; rfl); exact hS; simp only [List.setIfInBounds_toArray, List.set_cons_succ, List.set_cons_zero]
                  (apply regi_take hF 4 rfl rfl (by decide +kernel) rfl); (rintro w' ⟨⟨h1, h2⟩, h3, h4⟩; go_simp; rfl); exact hS; simp only [List.setIfInBounds_toArray, List.set_cons_succ, List.set_cons_zero]
                  (apply regi_take hF 5 rfl rfl (by decide +kernel) rfl); (rintro w' ⟨⟨h1, h2⟩, h3, h4⟩; go_simp; rfl); exact hS; simp only [List.setIfInBounds_toArray, List.set_cons_succ, List.set_cons_zero]
                  (apply regi_take hF 6 rfl rfl (by decide +kernel) rfl); (rintro w' ⟨⟨h1, h2⟩, h3, h4⟩; go_simp; rfl); exact hS; simp only [List.setIfInBounds_toArray, List.set_cons_succ, List.set_cons_zero]
                  (apply regi_take hF 7 rfl rfl (by decide +kernel) rfl); (rintro w' ⟨⟨h1, h2⟩, h3, h4⟩; go_simp; rfl); exact hS; simp only [List.setIfInBounds_toArray, List.set_cons_succ, List.set_cons_zero]
                  (apply regi_take hF 8 rfl rfl (by decide +kernel) rfl); (rintro w' ⟨⟨h1, h2⟩, h3, h4⟩; go_simp; rfl); exact hS; simp only [List.setIfInBounds_toArray, List.set_cons_succ, List.set_cons_zero]
                  (apply regi_take hF 9 rfl rfl (by decide +kernel) rfl); (rintro w' ⟨⟨h1, h2⟩, h3, h4⟩; go_simp; rfl); exact hS; simp only [List.setIfInBounds_toArray, List.set_cons_succ, List.set_cons_zero]
                  (apply regi_take hF 10 rfl rfl (by decide +kernel) rfl); (rintro w' ⟨⟨h1, h2⟩, h3, h4⟩; go_simp; rfl); exact hS; simp only [List.setIfInBounds_toArray, List.set_cons_succ, List.set_cons_zero]
                  (apply regi_take hF 11 rfl rfl (by decide +kernel) rfl); (rintro w' ⟨⟨h1, h2⟩, h3, h4⟩; go_simp; rfl); exact hS; simp only [List.setIfInBounds_toArray, List.set_cons_succ, List.set_cons_zero]
                  (apply regi_take hF 12 rfl rfl (by decide +kernel) rfl); (rintro w' ⟨⟨h1, h2⟩, h3, h4⟩; go_simp; rfl); exact hS; simp only [List.setIfInBounds_toArray, List.set_cons_succ, List.set_cons_zero]
                  (apply regi_take hF 13 rfl rfl (by decide +kernel) rfl); (rintro w' ⟨⟨h1, h2⟩, h3, h4⟩; go_simp; rfl); exact hS; simp only [List.setIfInBounds_toArray, List.set_cons_succ, List.set_cons_zero]
                  (apply regi_take hF 14 rfl rfl (by decide +kernel) rfl); (rintro w' ⟨⟨h1, h2⟩, h3, h4⟩; go_simp; rfl); exact hS; simp only [List.setIfInBounds_toArray, List.set_cons_succ, List.set_cons_zero]
                  (apply regi_take hF 15 rfl rfl (by decide +kernel) rfl); (rintro w' ⟨⟨h1, h2⟩, h3, h4⟩; go_simp; rfl); exact hS; simp only [List.setIfInBounds_toArray, List.set_cons_succ, List.set_cons_zero]
                  (apply regi_take hF 16 rfl rfl (by decide +kernel) rfl); (rintro w' ⟨⟨h1, h2⟩, h3, h4⟩; go_simp; rfl); exact hS; simp only [List.setIfInBounds_toArray, List.set_cons_succ, List.set_cons_zero]
                  (apply regi_take hF 17 rfl rfl (by decide +kernel) rfl); (rintro w' ⟨⟨h1, h2⟩, h3, h4⟩; go_simp; rfl); exact hS; simp only [List.setIfInBounds_toArray, List.set_cons_succ, List.set_cons_zero]
                  (apply regi_take hF 18 rfl rfl (by decide +kernel) rfl); (rintro w' ⟨⟨h1, h2⟩, h3, h4⟩; go_simp; rfl); exact hS; simp only [List.setIfInBounds_toArray, List.set_cons_succ, List.set_cons_zero]
                  (apply regi_take hF 19 rfl rfl (by decide +kernel) rfl); (rintro w' ⟨⟨h1, h2⟩, h3, h4⟩; go_simp; rfl); exact hS; simp only [List.setIfInBounds_toArray, List.set_cons_succ, List.set_cons_zero]
                  (apply regi_take hF 20 rfl rfl (by decide +kernel) rfl); (rintro w' ⟨⟨h1, h2⟩, h3, h4⟩; go_simp; rfl); exact hS; simp only [List.setIfInBounds_toArray, List.set_cons_succ, List.set_cons_zero]
                  (apply regi_take hF 21 rfl rfl (by decide +kernel) rfl); (rintro w' ⟨⟨h1, h2⟩, h3, h4⟩; go_simp; rfl); exact hS; simp only [List.setIfInBounds_toArray, List.set_cons_succ, List.set_cons_zero]
                  (apply regi_take hF 22 rfl rfl (by decide +kernel) rfl); (rintro w' ⟨⟨h1, h2⟩, h3, h4⟩; go_simp; rfl); exact hS; simp only [List.setIfInBounds_toArray, List.set_cons_succ, List.set_cons_zero]
                  (apply regi_take hF 23 rfl rfl (by decide +kernel) rfl); (rintro w' ⟨⟨h1, h2⟩, h3, h4⟩; go_simp; rfl); exact hS; simp only [List.setIfInBounds_toArray, List.set_cons_succ, List.set_cons_zero]
                  (apply regi_take hF 24 rfl rfl (by decide +kernel) rfl); (rintro w' ⟨⟨h1, h2⟩, h3, h4⟩; go_simp; rfl); exact hS; simp only [List.setIfInBounds_toArray, List.set_cons_succ, List.set_cons_zero]
                  (apply regi_take hF 25 rfl rfl (by decide +kernel) rfl); (rintro w' ⟨⟨h1, h2⟩, h3, h4⟩; go_simp; rfl); exact hS; simp only [List.setIfInBounds_toArray, List.set_cons_succ, List.set_cons_zero]
                  (apply regi_take hF 26 rfl rfl (by decide +kernel) rfl); (rintro w' ⟨⟨h1, h2⟩, h3, h4⟩; go_simp; rfl); exact hS; simp only [List.setIfInBounds_toArray, List.set_cons_succ, List.set_cons_zero]
                  (apply regi_take hF 27 rfl rfl (by decide +kernel) rfl); (rintro w' ⟨⟨h1, h2⟩, h3, h4⟩; go_simp; rfl); exact hS; simp only [List.setIfInBounds_toArray, List.set_cons_succ, List.set_cons_zero]
                  (apply regi_take hF 28 rfl rfl (by decide +kernel) rfl); (rintro w' ⟨⟨h1, h2⟩, h3, h4⟩; go_simp; rfl); exact hS; simp only [List.setIfInBounds_toArray, List.set_cons_succ, List.set_cons_zero]
                  refine regi_done (by decide +kernel) ?_
                  have hJd : J (pre ++ itemsF (k * 1) first (dm ma mb)) w'.drew := hG _ _ _ hJs ⟨rfl, rfl, rfl, Nat.le_refl _, fun _ _ _ => rfl⟩
                  have hkd : KeepT TNode n₀ W2 w'.drew := hkw.trans (KeepT.drew _ _ _)
                  clear hS hbit hx a0 b0 a17 b17
                  gi_wp2
                  refine ⟨⟨⟨k + 1, _, by omega, HN.out, rfl, by rw [HXS.out]; exact hJd, hkd⟩⟩, ?_⟩
                  simp only [intOf]
                  have := Nat.and_le_right (n := both) (m := both - 1)
                  omega
                · have HDM := Lib.hid (dm_some (m := ma) (m' := mb) (i := k) (by rw [hma, hmb]; simpa using hxy))
                  have hxy2 : (xa == xb) = false := by simpa using hxy
                  refine regi_begin (fun w' => (w'.cell? ⟨ba, 0, none⟩ = some (.int .u16 (hsa : Int)) ∧ w'.cell? ⟨bb, 0, none⟩ = some (.int .u16 (hsb : Int))) ∧ w'.cell? ⟨ba, 17 + k, none⟩ = some (.int .i64 xa) ∧ w'.cell? ⟨bb, 17 + k, none⟩ = some (.int .i64 xb)) (by kernel_rfl) ?_
                  (apply regi_take hF 0 rfl rfl (by decide +kernel) rfl); (rintro w' ⟨⟨h1, h2⟩, h3, h4⟩; go_simp; rfl); exact hS; simp only [List.setIfInBounds_toArray, List.set_cons_succ, List.set_cons_zero]
                  (apply regi_take hF 1 rfl rfl (by decide +kernel) rfl); (rintro w' ⟨⟨h1, h2⟩, h3, h4⟩; go_simp; rfl); exact hS; simp only [List.setIfInBounds_toArray, List.set_cons_succ, List.set_cons_zero]
                  (apply regi_take hF 2 rfl rfl (by decide +kernel) rfl); (rintro w' ⟨⟨h1, h2⟩, h3, h4⟩; go_simp; rfl); exact hS; simp only [List.setIfInBounds_toArray, List.set_cons_succ, List.set_cons_zero]
                  (apply regi_take hF 3 rfl rfl (by decide +kernel) rfl); (rintro w' ⟨⟨h1, h2⟩, h3, h4⟩; go_simp; rfl); exact hS; simp only [List.setIfInBounds_toArray, List.set_cons_succ, List.set_cons_zero]
                  (apply regi_take hF 4 rfl rfl (by decide +kernel) rfl); (rintro w' ⟨⟨h1, h2⟩, h3, h4⟩; go_simp; rfl); exact hS; simp only [List.setIfInBounds_toArray, List.set_cons_succ, List.set_cons_zero]
                  (apply regi_take hF 5 rfl rfl (by decide +kernel) rfl); (rintro w' ⟨⟨h1, h2⟩, h3, h4⟩; go_simp; rfl); exact hS; simp only [List.setIfInBounds_toArray, List.set_cons_succ, List.set_cons_zero]
                  (apply regi_take hF 6 rfl rfl (by decide +kernel) rfl); (rintro w' ⟨⟨h1, h2⟩, h3, h4⟩; go_simp; rfl); exact hS; simp only [List.setIfInBounds_toArray, List.set_cons_succ, List.set_cons_zero]
                  (apply regi_take hF 7 rfl rfl (by decide +kernel) rfl); (rintro w' ⟨⟨h1, h2⟩, h3, h4⟩; go_simp; rfl); exact hS; simp only [List.setIfInBounds_toArray, List.set_cons_succ, List.set_cons_zero]
                  (apply regi_take hF 8 rfl rfl (by decide +kernel) rfl); (rintro w' ⟨⟨h1, h2⟩, h3, h4⟩; go_simp; rfl); exact hS; simp only [List.setIfInBounds_toArray, List.set_cons_succ, List.set_cons_zero]
                  (apply regi_take hF 9 rfl rfl (by decide +kernel) rfl); (rintro w' ⟨⟨h1, h2⟩, h3, h4⟩; go_simp; rfl); exact hS; simp only [List.setIfInBounds_toArray, List.set_cons_succ, List.set_cons_zero]
                  (apply regi_take hF 10 rfl rfl (by decide +kernel) rfl); (rintro w' ⟨⟨h1, h2⟩, h3, h4⟩; go_simp; rfl); exact hS; simp only [List.setIfInBounds_toArray, List.set_cons_succ, List.set_cons_zero]
                  (apply regi_take hF 11 rfl rfl (by decide +kernel) rfl); (rintro w' ⟨⟨h1, h2⟩, h3, h4⟩; go_simp; rfl); exact hS; simp only [List.setIfInBounds_toArray, List.set_cons_succ, List.set_cons_zero]
                  (apply regi_take hF 12 rfl rfl (by decide +kernel) rfl); (rintro w' ⟨⟨h1, h2⟩, h3, h4⟩; go_simp; rfl); exact hS; simp only [List.setIfInBounds_toArray, List.set_cons_succ, List.set_cons_zero]
                  (apply regi_take hF 13 rfl rfl (by decide +kernel) rfl); (rintro w' ⟨⟨h1, h2⟩, h3, h4⟩; go_simp; rfl); exact hS; simp only [List.setIfInBounds_toArray, List.set_cons_succ, List.set_cons_zero]
                  (apply regi_take hF 14 rfl rfl (by decide +kernel) rfl); (rintro w' ⟨⟨h1, h2⟩, h3, h4⟩; go_simp; rfl); exact hS; simp only [List.setIfInBounds_toArray, List.set_cons_succ, List.set_cons_zero]
                  (apply regi_take hF 15 rfl rfl (by decide +kernel) rfl); (rintro w' ⟨⟨h1, h2⟩, h3, h4⟩; go_simp; rfl); exact hS; simp only [List.setIfInBounds_toArray, List.set_cons_succ, List.set_cons_zero]
                  (apply regi_take hF 16 rfl rfl (by decide +kernel) rfl); (rintro w' ⟨⟨h1, h2⟩, h3, h4⟩; go_simp; rfl); exact hS; simp only [List.setIfInBounds_toArray, List.set_cons_succ, List.set_cons_zero]
                  (apply regi_take hF 17 rfl rfl (by decide +kernel) rfl); (rintro w' ⟨⟨h1, h2⟩, h3, h4⟩; go_simp; rfl); exact hS; simp only [List.setIfInBounds_toArray, List.set_cons_succ, List.set_cons_zero]
                  (apply regi_take hF 18 rfl rfl (by decide +kernel) rfl); (rintro w' ⟨⟨h1, h2⟩, h3, h4⟩; go_simp; rfl); exact hS; simp only [List.setIfInBounds_toArray, List.set_cons_succ, List.set_cons_zero]
                  (apply regi_take hF 19 rfl rfl (by decide +kernel) rfl); (rintro w' ⟨⟨h1, h2⟩, h3, h4⟩; go_simp; rfl); exact hS; simp only [List.setIfInBounds_toArray, List.set_cons_succ, List.set_cons_zero]
                  (apply regi_take hF 20 rfl rfl (by decide +kernel) rfl); (rintro w' ⟨⟨h1, h2⟩, h3, h4⟩; go_simp; rfl); exact hS; simp only [List.setIfInBounds_toArray, List.set_cons_succ, List.set_cons_zero]
                  (apply regi_take hF 21 rfl rfl (by decide +kernel) rfl); (rintro w' ⟨⟨h1, h2⟩, h3, h4⟩; go_simp; rfl); exact hS; simp only [List.setIfInBounds_toArray, List.set_cons_succ, List.set_cons_zero]
                  (apply regi_take hF 22 rfl rfl (by decide +kernel) rfl); (rintro w' ⟨⟨h1, h2⟩, h3, h4⟩; go_simp; rfl); exact hS; simp only [List.setIfInBounds_toArray, List.set_cons_succ, List.set_cons_zero]
                  (apply regi_take hF 23 rfl rfl (by decide +kernel) rfl); (rintro w' ⟨⟨h1, h2⟩, h3, h4⟩; go_simp; rfl); exact hS; simp only [List.setIfInBounds_toArray, List.set_cons_succ, List.set_cons_zero]
                  (apply regi_take hF 24 rfl rfl (by decide +kernel) rfl); (rintro w' ⟨⟨h1, h2⟩, h3, h4⟩; go_simp; rfl); exact hS; simp only [List.setIfInBounds_toArray, List.set_cons_succ, List.set_cons_zero]
                  (apply regi_take hF 25 rfl rfl (by decide +kernel) rfl); (rintro w' ⟨⟨h1, h2⟩, h3, h4⟩; go_simp; rfl); exact hS; simp only [List.setIfInBounds_toArray, List.set_cons_succ, List.set_cons_zero]
                  (apply regi_take hF 26 rfl rfl (by decide +kernel) rfl); (rintro w' ⟨⟨h1, h2⟩, h3, h4⟩; go_simp; rfl); exact hS; simp only [List.setIfInBounds_toArray, List.set_cons_succ, List.set_cons_zero]
                  (apply regi_take hF 27 rfl rfl (by decide +kernel) rfl); (rintro w' ⟨⟨h1, h2⟩, h3, h4⟩; go_simp; rfl); exact hS; simp only [List.setIfInBounds_toArray, List.set_cons_succ, List.set_cons_zero]
                  (apply regi_take hF 28 rfl rfl (by decide +kernel) rfl); (rintro w' ⟨⟨h1, h2⟩, h3, h4⟩; go_simp; rfl); exact hS; simp only [List.setIfInBounds_toArray, List.set_cons_succ, List.set_cons_zero]
                  refine regi_done (by decide +kernel) ?_
                  have hJd : J (pre ++ itemsF (k * 1) first (dm ma mb)) w'.drew := hG _ _ _ hJs ⟨rfl, rfl, rfl, Nat.le_refl _, fun _ _ _ => rfl⟩
                  have hx : itemsF ((k + 1) * 1) first (dm ma mb) = itemsF (k * 1) first (dm ma mb) ++ [(first + k, 0)] := by rw [Nat.mul_one, Nat.mul_one, itemsF_some HDM.out]
                  have hlen := itemsF_lenle (m := dm ma mb) (first := first) (a := (k + 1) * 1) (b := 16) (by omega)
                  obtain ⟨fn, tmps, assign, body, hy, hR⟩ := HYY.out (n - 1) (pre ++ itemsF (k * 1) first (dm ma mb)) (first + k, 0) w'.drew hJd (by have := HNN.out; rw [hx] at hlen; simp at hlen ⊢; omega)
                  dsimp only at hy
                  rw [Int.natCast_add] at hy
                  have HXS := Lib.hid hx
                  have hkd : KeepT TNode n₀ W2 w'.drew := hkw.trans (KeepT.drew _ _ _)
                  clear hS hbit hx hlen a0 b0 a17 b17 hJd
                  gi_wp2_with ((try refine ⟨hdd _, ?_⟩); refine hR.mono ?_; clear hR; rintro e W3 (⟨rfl, hJ3, hb3⟩ | ⟨rfl, hJx3⟩))
                  · refine ⟨⟨⟨k + 1, _, by omega, HN.out, rfl, by rw [HXS.out, ← List.append_assoc]; exact hJ3, hkd.trans hb3⟩⟩, ?_⟩
                    simp only [intOf]
                    have := Nat.and_le_right (n := both) (m := both - 1)
                    omega
                  · go_ret
                    exact .inr ⟨rfl, itemsF (k * 1) first (dm ma mb) ++ [(first + k, 0)], by rw [← HXS.out]; exact itemsF_prefix (by omega), by rw [← List.append_assoc]; exact hJx3⟩
end Go.Proofs.YtednjhlkhecihaaGreatDoor
