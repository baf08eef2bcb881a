import Derived.RangeFuncKeeps
import Derived.RangeFuncBound
import Derived.RangeFuncLeaves
import Derived.Shelf.Abstract
import Derived.WalkKit
import Derived.OwnWalkIn
import Derived.TacticsInMore
import Derived.LoopNIn
import Derived.LoopIn
import Derived.Sort.CutIn
import Derived.Test.YteikbikopgabjaaGreatDoorV11
import Derived.Test.YteikbikopgabjaaGreatDoorV14
import Derived.RangeFuncFrom
import Derived.Test.YteikbikopgabjaaGreatDoorV13
/- Part 15 of a proof; the last part says what is proved. -/
section
namespace Go.Proofs.YteikbikopgabjaaGreatDoor
open Go.RowKit Go.Vol Go.Shelf
attribute [local go_sem] Oper.semAt_some
theorem room_of_none' {F : Fence} (hd : F.depth = none) (k : Nat) : F.room k := fun d h => by rw [hd] at h; cases h
theorem RoundIn.anyDepth' {F : Fence} (hd : F.depth = none) {m m' : Nat} {P : Program} {l : Nat} {f : FuncId} {tmps : Array Value} {assign body : Code} {w : World} {R : Ending → World → Prop}
    (h : RoundIn F m P l f tmps assign body w R) : RoundIn F m' P l f tmps assign body w R := ⟨h.1, fun c cs _ => h.2 c cs (room_of_none' hd _)⟩
theorem YieldAt.anyDepth' {F : Fence} (hd : F.depth = none) {m : Nat} (m' : Nat) {P : Program} {l : Nat} {args : Array Value} {W : World} {R : Ending → World → Prop} (h : YieldAt F m P l args W R) : YieldAt F m' P l args W R := by
  obtain ⟨fn, tmps, assign, body, hy, hR⟩ := h
  exact ⟨fn, tmps, assign, body, hy, RoundIn.anyDepth' hd hR⟩
def Asks (F : Fence) (l n₀ N : Nat) (J Jx : List (Nat × Int) → World → Prop) : Prop :=
  ∀ m pre (x : Nat × Int) W, J pre W → pre.length < N → YieldAt F m Tryz.prog l #[.int .i64 (x.1 : Int), .int .i64 x.2] W fun e W' =>
      (e = .returned (.bool true) ∧ J (pre ++ [x]) W' ∧ Below n₀ W W') ∨ (e = .returned (.bool false) ∧ Jx (pre ++ [x]) W')
def Walks (F : Fence) (l n₀ N : Nat) (J Jx : List (Nat × Int) → World → Prop) (L : Nat) : Prop :=
  ∀ (n : Nat) (v : Value) (m : MapM) (first : Nat) (pre : List (Nat × Int)) (W : World), NodeOk TNode (· < n₀) W L v m → first + 16 ^ (L + 1) ≤ 4096 → n₀ ≤ W.heap.size → J pre W → pre.length + (itemsF (16 ^ (L + 1)) first m).length ≤ N →
    CallsIn F n Tryz.prog 101 #[v, .int .i64 (L : Int), .int .i64 (first : Int), .int .i64 0, .int .i64 4096, .func (.yield l) #[] #[]] W fun e W' =>
      (e = .returned (.bool true) ∧ J (pre ++ itemsF (16 ^ (L + 1)) first m) W' ∧ Below n₀ W W') ∨ (e = .returned (.bool false) ∧ ∃ q, q <+: itemsF (16 ^ (L + 1)) first m ∧ Jx (pre ++ q) W')
structure WalkSt (n₀ : Nat) (J : List (Nat × Int) → World → Prop) (q first : Nat) (m : MapM) (pre : List (Nat × Int)) (W : World) (v : Value) (wr : World) : Prop where
  st : ∃ k : Nat, k ≤ 16 ∧ v = .int .i64 (k : Int) ∧ J (pre ++ itemsF (k * q) first m) wr ∧ Below n₀ W wr
set_option maxRecDepth 100000 in
set_option maxHeartbeats 2000000 in
theorem walk0_in (F : Fence) (hd : F.depth = none) (hf : F.fn 101) (hro : F.round = none) (l n₀ N : Nat) (J Jx : List (Nat × Int) → World → Prop) (hY : Asks F l n₀ N J Jx) : Walks F l n₀ N J Jx 0 := by
  intro n v m first pre W hn hfi hsz hJ hN
  have hdd : ∀ k : Nat, (F.depth.isSome = true → 1 ≤ k) := fun k h => by rw [hd] at h; cases h
  have hQ : (16 : Nat) ^ (0 + 1) = 16 := by decide
  rw [hQ] at hfi
  have hfi1 : (first : Int) + 16 ≤ 4096 := by omega
  have hfi0 : (0 : Int) ≤ (first : Int) := by omega
  rw [hQ] at hN
  have HN := Lib.hid hN
  have HY := Lib.hid hY
  
  clear hY hN hfi
  obtain ⟨q0, rfl⟩ := NodeOk.ptr hn
  refine callsIn_of_wp Tryz.func101 rfl hf ?_ hro
  simp only [Tryz.ntmps101, List.size_toArray, List.length_cons, List.length_nil, Nat.reduceAdd, Nat.reduceSub, Array.replicate_succ, Array.replicate_zero, List.push_toArray, List.append_toArray, List.nil_append, List.cons_append]
  cases q0 with
  | none =>
    have hnil := itemsF_nil first _ (anyB_false.1 (NodeOk.nil hn))
    have HX := Lib.hid hnil
    clear hnil hn hdd
    gi_wp2
    go_ret
    refine .inl ⟨rfl, ?_, Below.refl _ _⟩
    rw [HX.out, List.append_nil]; exact hJ
  | some ad =>
    obtain ⟨b, rfl, hb, hb0, -⟩ := NodeOk.block hn
    have hst : WalkSt n₀ J 1 first m pre W (.int .i64 ((0 : Nat) : Int)) W := ⟨⟨0, by omega, rfl, by rw [Nat.zero_mul, itemsF_zero, List.append_nil]; exact hJ, Below.refl _ _⟩⟩
    have HST := Lib.hid hst
    clear hst hJ
    have HB := Lib.hid hn
    clear hn
    gi_wp2
    gi_loopw [14, 15, 21] (fun _ _ v wr => WalkSt n₀ J 1 first m pre W v wr) (fun _ _ v _ => 16 - (intOf v).toNat)
    case atStart => exact HST.out
    case round =>
      clear HST
      obtain ⟨k, hk, rfl, hJs, hbw⟩ := hrel.st
      clear hrel
      by_cases hk16 : k < 16
      · have hki : (k : Int) < 16 := by omega
        obtain ⟨hh, -, -⟩ := NodeOk.leaf HB.out
        have hh2 := (hbw.block b hb0).trans hh
        obtain ⟨k0, -, k2⟩ := nodeC_at hh2 (by simp [nils])
        have k17 := k2 k _ (chs_at m hk16)
        have hbit := bit1 (has0 m) k (has0_lt m)
        rw [has0_bit m hk16] at hbit
        have hlt := has0_lt m
        generalize has0 m = hs at k0 hbit hlt
        clear k2 hh hh2
        cases hm : m k with
        | none =>
          rw [hm] at hbit
          have hbit2 : bits .and .u16 ((hs : Int) / 2 ^ k) 1 = 0 := hbit
          clear hbit k17 hb hsz hdd
          gi_wp2
          refine ⟨⟨⟨k + 1, by omega, by rw [Int.natCast_add]; rfl, ?_, hbw⟩⟩, by simp only [intOf]; omega⟩
          rw [Nat.mul_one] at hJs ⊢
          rw [itemsF_none hm]; exact hJs
        | some c =>
          rw [hm] at hbit k17
          have hbit2 : bits .and .u16 ((hs : Int) / 2 ^ k) 1 = 1 := hbit
          have hx : itemsF ((k + 1) * 1) first m = itemsF (k * 1) first m ++ [(first + k, c)] := by rw [Nat.mul_one, Nat.mul_one, itemsF_some hm]
          have hlen := itemsF_lenle (m := m) (first := first) (a := (k + 1) * 1) (b := 16) (by omega)
          obtain ⟨fn, tmps, assign, body, hy, hR⟩ := HY.out (n - 1) (pre ++ itemsF (k * 1) first m) (first + k, c) wr hJs (by have := HN.out; rw [hx] at hlen; simp at hlen ⊢; omega)
          dsimp only at hy
          rw [Int.natCast_add] at hy
          have HXS := Lib.hid hx
          clear hbit hx hlen hm hb hsz
          gi_wp2_with ((try refine ⟨hdd _, ?_⟩); refine hR.mono ?_; clear hR; rintro e W2 (⟨rfl, hJ2, hb2⟩ | ⟨rfl, hJx2⟩))
          · refine ⟨⟨⟨k + 1, by omega, by rw [Int.natCast_add]; rfl, by rw [HXS.out, ← List.append_assoc]; exact hJ2, hbw.trans hb2⟩⟩, by simp only [intOf]; omega⟩
          · rename_i hu _
            simp [undef] at hu
          · rename_i hu _
            simp [undef] at hu
          · go_ret
            exact .inr ⟨rfl, itemsF (k * 1) first m ++ [(first + k, c)], by rw [← HXS.out]; exact itemsF_prefix (by omega), by rw [← List.append_assoc]; exact hJx2⟩
      · obtain rfl : k = 16 := by omega
        clear hb hsz hdd
        gi_wp2
        go_ret
        exact .inl ⟨rfl, hJs, hbw⟩
set_option maxRecDepth 100000 in
set_option maxHeartbeats 2000000 in
theorem walk1_in (F : Fence) (hd : F.depth = none) (hf : F.fn 101) (hro : F.round = none) (l n₀ N : Nat) (J Jx : List (Nat × Int) → World → Prop) (hY : Asks F l n₀ N J Jx) (ih : Walks F l n₀ N J Jx 0) : Walks F l n₀ N J Jx 1 := by
  intro n v m first pre W hn hfi hsz hJ hN
  have hdd : ∀ k : Nat, (F.depth.isSome = true → 1 ≤ k) := fun k h => by rw [hd] at h; cases h
  have hQ : (16 : Nat) ^ (1 + 1) = 256 := by decide
  rw [hQ] at hfi
  have hfi1 : (first : Int) + 256 ≤ 4096 := by omega
  have hfi0 : (0 : Int) ≤ (first : Int) := by omega
  rw [hQ] at hN
  have HN := Lib.hid hN
  have HY := Lib.hid hY
  have HIH := Lib.hid ih
  clear hY hN hfi ih
  obtain ⟨q0, rfl⟩ := NodeOk.ptr hn
  refine callsIn_of_wp Tryz.func101 rfl hf ?_ hro
  simp only [Tryz.ntmps101, List.size_toArray, List.length_cons, List.length_nil, Nat.reduceAdd, Nat.reduceSub, Array.replicate_succ, Array.replicate_zero, List.push_toArray, List.append_toArray, List.nil_append, List.cons_append]
  cases q0 with
  | none =>
    have hnil := itemsF_nil first _ (anyB_false.1 (NodeOk.nil hn))
    have HX := Lib.hid hnil
    clear hnil hn hdd
    gi_wp2
    go_ret
    refine .inl ⟨rfl, ?_, Below.refl _ _⟩
    rw [HX.out, List.append_nil]; exact hJ
  | some ad =>
    obtain ⟨b, rfl, hb, hb0, -⟩ := NodeOk.block hn
    have hst : WalkSt n₀ J 16 first m pre W (.int .i64 ((0 : Nat) : Int)) W := ⟨⟨0, by omega, rfl, by rw [Nat.zero_mul, itemsF_zero, List.append_nil]; exact hJ, Below.refl _ _⟩⟩
    have HST := Lib.hid hst
    clear hst hJ
    have HB := Lib.hid hn
    clear hn
    gi_wp2
    gi_loopw [14, 15, 21] (fun _ _ v wr => WalkSt n₀ J 16 first m pre W v wr) (fun _ _ v _ => 16 - (intOf v).toNat)
    case atStart => exact HST.out
    case round =>
      clear HST
      obtain ⟨k, hk, rfl, hJs, hbw⟩ := hrel.st
      clear hrel
      by_cases hk16 : k < 16
      · have hki : (k : Int) < 16 := by omega
        obtain ⟨kids, hlen, hh, hkid, -, -⟩ := NodeOk.inner HB.out
        have hh2 := (hbw.block b hb0).trans hh
        obtain ⟨k0, k1, -⟩ := nodeC_at hh2 hlen
        obtain ⟨kd, hkd⟩ : ∃ kd, kids[k]? = some kd := ⟨_, List.getElem?_eq_getElem (by rw [hlen]; exact hk16)⟩
        have k17 := k1 _ _ hkd
        have hkn : NodeOk TNode (· < n₀) wr 0 kd (sub m 0 k) := (hkid _ _ hkd).keep fun j hj _ => hbw.block j hj
        have hbit := bit1 (hasS m 0) k (hasS_lt m 0)
        rw [hasS_bit m 0 hk16] at hbit
        have hlt := hasS_lt m 0
        generalize hasS m 0 = hs at k0 hbit hlt hh hh2
        have HKN := Lib.hid hkn
        obtain ⟨kq, rfl⟩ := NodeOk.ptr hkn
        clear k1 hh hh2 hkid hkn hkd hlen
        cases hm : anyB (16 ^ (0 + 1)) (sub m 0 k) with
        | false =>
          rw [hm] at hbit
          have hbit2 : bits .and .u16 ((hs : Int) / 2 ^ k) 1 = 0 := hbit
          have hx : itemsF ((k + 1) * 16) first m = itemsF (k * 16) first m := itemsF_sub_none first hm
          have HXS := Lib.hid hx
          clear hbit k17 hb hsz hdd hx hm
          gi_wp2
          exact ⟨⟨⟨k + 1, by omega, by rw [Int.natCast_add]; rfl, by rw [HXS.out]; exact hJs, hbw⟩⟩, by simp only [intOf]; omega⟩
        | true =>
          rw [hm] at hbit
          have hbit2 : bits .and .u16 ((hs : Int) / 2 ^ k) 1 = 1 := hbit
          have hx : itemsF ((k + 1) * 16) first m = itemsF (k * 16) first m ++ itemsF 16 (first + k * 16) (sub m 0 k) := itemsF_sub m 0 k first
          have hlen := itemsF_lenle (m := m) (first := first) (a := (k + 1) * 16) (b := 256) (by omega)
          have hf2 : first + k * 16 + 16 ^ (0 + 1) ≤ 4096 := by rw [show (16 : Nat) ^ (0 + 1) = 16 from by decide]; omega
          have hC := HIH.out (n - 1) (.pointer kq) (sub m 0 k) (first + k * 16) (pre ++ itemsF (k * 16) first m) wr HKN.out hf2 (by have := hbw.size; omega) hJs (by have := HN.out; rw [hx] at hlen; simp at hlen ⊢; omega)
          rw [show (16 : Nat) ^ (0 + 1) = 16 from by decide, show ((0 : Nat) : Int) = 0 from rfl, Int.natCast_add, Int.natCast_mul, show ((16 : Nat) : Int) = 16 from rfl] at hC
          have HXS := Lib.hid hx
          have HC := Lib.hid hC
          clear hbit hx hlen hm hb hsz hC hf2
          have hp1 : (0 : Int) < (first : Int) + (k : Int) * 16 + 16 := by omega
          have hp2 : (first : Int) + (k : Int) * 16 < 4096 := by omega
          gi_wp2
          refine ⟨fun _ h => (by cases h), ?_⟩
          gi_wp2_with ((try refine ⟨hdd _, ?_⟩); gi_at_call 101; refine HC.out.mono ?_; clear HC; rintro e W2 (⟨rfl, hJ2, hb2⟩ | ⟨rfl, q, hq, hJx2⟩))
          · refine ⟨⟨⟨k + 1, by omega, by rw [Int.natCast_add]; rfl, by rw [HXS.out, ← List.append_assoc]; exact hJ2, hbw.trans hb2⟩⟩, by simp only [intOf]; omega⟩
          · go_ret
            exact .inr ⟨rfl, itemsF (k * 16) first m ++ q, (List.prefix_append_right_inj _).2 hq |>.trans (by rw [← HXS.out]; exact itemsF_prefix (by omega)), by rw [← List.append_assoc]; exact hJx2⟩
      · obtain rfl : k = 16 := by omega
        clear hb hsz hdd
        gi_wp2
        go_ret
        exact .inl ⟨rfl, hJs, hbw⟩
set_option maxRecDepth 100000 in
set_option maxHeartbeats 2000000 in
theorem walk2_in (F : Fence) (hd : F.depth = none) (hf : F.fn 101) (hro : F.round = none) (l n₀ N : Nat) (J Jx : List (Nat × Int) → World → Prop) (hY : Asks F l n₀ N J Jx) (ih : Walks F l n₀ N J Jx 1) : Walks F l n₀ N J Jx 2 := by
  intro n v m first pre W hn hfi hsz hJ hN
  have hdd : ∀ k : Nat, (F.depth.isSome = true → 1 ≤ k) := fun k h => by rw [hd] at h; cases h
  have hQ : (16 : Nat) ^ (2 + 1) = 4096 := by decide
  rw [hQ] at hfi
  have hfi1 : (first : Int) + 4096 ≤ 4096 := by omega
  have hfi0 : (0 : Int) ≤ (first : Int) := by omega
  rw [hQ] at hN
  have HN := Lib.hid hN
  have HY := Lib.hid hY
  have HIH := Lib.hid ih
  clear hY hN hfi ih
  obtain ⟨q0, rfl⟩ := NodeOk.ptr hn
  refine callsIn_of_wp Tryz.func101 rfl hf ?_ hro
  simp only [Tryz.ntmps101, List.size_toArray, List.length_cons, List.length_nil, Nat.reduceAdd, Nat.reduceSub, Array.replicate_succ, Array.replicate_zero, List.push_toArray, List.append_toArray, List.nil_append, List.cons_append]
  cases q0 with
  | none =>
    have hnil := itemsF_nil first _ (anyB_false.1 (NodeOk.nil hn))
    have HX := Lib.hid hnil
    clear hnil hn hdd
    gi_wp2
    go_ret
    refine .inl ⟨rfl, ?_, Below.refl _ _⟩
    rw [HX.out, List.append_nil]; exact hJ
  | some ad =>
    obtain ⟨b, rfl, hb, hb0, -⟩ := NodeOk.block hn
    have hst : WalkSt n₀ J 256 first m pre W (.int .i64 ((0 : Nat) : Int)) W := ⟨⟨0, by omega, rfl, by rw [Nat.zero_mul, itemsF_zero, List.append_nil]; exact hJ, Below.refl _ _⟩⟩
    have HST := Lib.hid hst
    clear hst hJ
    have HB := Lib.hid hn
    clear hn
    gi_wp2
    gi_loopw [14, 15, 21] (fun _ _ v wr => WalkSt n₀ J 256 first m pre W v wr) (fun _ _ v _ => 16 - (intOf v).toNat)
    case atStart => exact HST.out
    case round =>
      clear HST
      obtain ⟨k, hk, rfl, hJs, hbw⟩ := hrel.st
      clear hrel
      by_cases hk16 : k < 16
      · have hki : (k : Int) < 16 := by omega
        obtain ⟨kids, hlen, hh, hkid, -, -⟩ := NodeOk.inner HB.out
        have hh2 := (hbw.block b hb0).trans hh
        obtain ⟨k0, k1, -⟩ := nodeC_at hh2 hlen
        obtain ⟨kd, hkd⟩ : ∃ kd, kids[k]? = some kd := ⟨_, List.getElem?_eq_getElem (by rw [hlen]; exact hk16)⟩
        have k17 := k1 _ _ hkd
        have hkn : NodeOk TNode (· < n₀) wr 1 kd (sub m 1 k) := (hkid _ _ hkd).keep fun j hj _ => hbw.block j hj
        have hbit := bit1 (hasS m 1) k (hasS_lt m 1)
        rw [hasS_bit m 1 hk16] at hbit
        have hlt := hasS_lt m 1
        generalize hasS m 1 = hs at k0 hbit hlt hh hh2
        have HKN := Lib.hid hkn
        obtain ⟨kq, rfl⟩ := NodeOk.ptr hkn
        clear k1 hh hh2 hkid hkn hkd hlen
        cases hm : anyB (16 ^ (1 + 1)) (sub m 1 k) with
        | false =>
          rw [hm] at hbit
          have hbit2 : bits .and .u16 ((hs : Int) / 2 ^ k) 1 = 0 := hbit
          have hx : itemsF ((k + 1) * 256) first m = itemsF (k * 256) first m := itemsF_sub_none first hm
          have HXS := Lib.hid hx
          clear hbit k17 hb hsz hdd hx hm
          gi_wp2
          exact ⟨⟨⟨k + 1, by omega, by rw [Int.natCast_add]; rfl, by rw [HXS.out]; exact hJs, hbw⟩⟩, by simp only [intOf]; omega⟩
        | true =>
          rw [hm] at hbit
          have hbit2 : bits .and .u16 ((hs : Int) / 2 ^ k) 1 = 1 := hbit
          have hx : itemsF ((k + 1) * 256) first m = itemsF (k * 256) first m ++ itemsF 256 (first + k * 256) (sub m 1 k) := itemsF_sub m 1 k first
          have hlen := itemsF_lenle (m := m) (first := first) (a := (k + 1) * 256) (b := 4096) (by omega)
          have hf2 : first + k * 256 + 16 ^ (1 + 1) ≤ 4096 := by rw [show (16 : Nat) ^ (1 + 1) = 256 from by decide]; omega
          have hC := HIH.out (n - 1) (.pointer kq) (sub m 1 k) (first + k * 256) (pre ++ itemsF (k * 256) first m) wr HKN.out hf2 (by have := hbw.size; omega) hJs (by have := HN.out; rw [hx] at hlen; simp at hlen ⊢; omega)
          rw [show (16 : Nat) ^ (1 + 1) = 256 from by decide, show ((1 : Nat) : Int) = 1 from rfl, Int.natCast_add, Int.natCast_mul, show ((256 : Nat) : Int) = 256 from rfl] at hC
          have HXS := Lib.hid hx
          have HC := Lib.hid hC
          clear hbit hx hlen hm hb hsz hC hf2
          have hp1 : (0 : Int) < (first : Int) + (k : Int) * 256 + 256 := by omega
          have hp2 : (first : Int) + (k : Int) * 256 < 4096 := by omega
          gi_wp2
          refine ⟨fun _ h => (by cases h), ?_⟩
          gi_wp2_with ((try refine ⟨hdd _, ?_⟩); gi_at_call 101; refine HC.out.mono ?_; clear HC; rintro e W2 (⟨rfl, hJ2, hb2⟩ | ⟨rfl, q, hq, hJx2⟩))
          · refine ⟨⟨⟨k + 1, by omega, by rw [Int.natCast_add]; rfl, by rw [HXS.out, ← List.append_assoc]; exact hJ2, hbw.trans hb2⟩⟩, by simp only [intOf]; omega⟩
          · go_ret
            exact .inr ⟨rfl, itemsF (k * 256) first m ++ q, (List.prefix_append_right_inj _).2 hq |>.trans (by rw [← HXS.out]; exact itemsF_prefix (by omega)), by rw [← List.append_assoc]; exact hJx2⟩
      · obtain rfl : k = 16 := by omega
        clear hb hsz hdd
        gi_wp2
        go_ret
        exact .inl ⟨rfl, hJs, hbw⟩
theorem walkAll_in (F : Fence) (hd : F.depth = none) (hf : F.fn 101) (hro : F.round = none) (l n₀ N : Nat) (J Jx : List (Nat × Int) → World → Prop) (hY : Asks F l n₀ N J Jx) : Walks F l n₀ N J Jx 2 :=
  walk2_in F hd hf hro l n₀ N J Jx hY (walk1_in F hd hf hro l n₀ N J Jx hY (walk0_in F hd hf hro l n₀ N J Jx hY))
abbrev encI (x : Nat × Int) : Array Value := #[.int .i64 (x.1 : Int), .int .i64 x.2]
set_option maxHeartbeats 1000000 in
theorem range1_in (F : Fence) (hd : F.depth = none) (n : Nat) (h1 : F.fn 100) (hf : F.fn 101) (hro : F.round = none) (l n₀ B1 B2 B3 : Nat) (r : Value) (m : MapM) (J Jx : List (Nat × Int) → World → Prop)
    (hY : ∀ pre x W, J pre W → pre.length < (items m).length → YieldAt F (n - 1) Tryz.prog l (encI x) W fun e W' =>
      (e = .returned (.bool true) ∧ J (pre ++ [x]) W' ∧ Below n₀ W W') ∨ (e = .returned (.bool false) ∧ Jx (pre ++ [x]) W'))
    (W : World) (hB1 : W.cell? ⟨B1, 0, none⟩ = some r) (hB2 : W.cell? ⟨B2, 0, none⟩ = some (.int .i64 0)) (hB3 : W.cell? ⟨B3, 0, none⟩ = some (.int .i64 4096)) (hn : NodeOk TNode (· < n₀) W 2 r m) (hsz : n₀ ≤ W.heap.size) (h0 : J [] W) :
    CallsIn F n Tryz.prog 100 #[.func (.yield l) #[] #[], .pointer (some ⟨B1, 0, none⟩), .pointer (some ⟨B2, 0, none⟩), .pointer (some ⟨B3, 0, none⟩)] W fun e W' => (∃ v, e = .returned v) ∧
      ((∃ ys, ys = items m ∧ J ys W') ∨ (∃ pre, pre <+: items m ∧ Jx pre W')) := by
  have hdd : ∀ k : Nat, (F.depth.isSome = true → 1 ≤ k) := fun k h => by rw [hd] at h; cases h
  have hp := walkAll_in F hd hf hro l n₀ (items m).length J Jx (fun m' pre x W hj hl => YieldAt.anyDepth' hd m' (hY pre x W hj hl)) (n - 1) r m 0 [] W hn (by decide) hsz h0 (by rw [show (16 : Nat) ^ (2 + 1) = 4096 from by decide]; simp [items])
  rw [show (16 : Nat) ^ (2 + 1) = 4096 from by decide, List.nil_append, show itemsF 4096 0 m = items m from rfl, show ((0 : Nat) : Int) = 0 from rfl, show ((2 : Nat) : Int) = 2 from rfl] at hp
  have HP := Lib.hid hp
  obtain ⟨q, rfl⟩ := NodeOk.ptr hn
  clear hp hn
  refine callsIn_of_wp Tryz.func100 rfl h1 ?_ hro
  simp only [Tryz.ntmps100, List.size_toArray, List.length_cons, List.length_nil, Nat.reduceAdd, Nat.reduceSub, Array.replicate_succ, Array.replicate_zero, List.push_toArray, List.append_toArray, List.nil_append, List.cons_append]
  gi_wp2_with ((try refine ⟨hdd _, ?_⟩); gi_at_call 101; refine HP.out.mono ?_; clear HP; rintro e W1 (⟨rfl, hJ1, _⟩ | ⟨rfl, q, hq, hx⟩))
  · go_end0
    exact ⟨⟨_, rfl⟩, .inl ⟨_, rfl, hJ1⟩⟩
  · go_end0
    exact ⟨⟨_, rfl⟩, .inr ⟨q, hq, by simpa using hx⟩⟩
def RgAt (w : World) (B : Nat) (r : Value) : Prop := w.cell? ⟨B, 0, none⟩ = some r ∧ w.cell? ⟨B + 1, 0, none⟩ = some (.int .i64 0) ∧ w.cell? ⟨B + 2, 0, none⟩ = some (.int .i64 4096) ∧ B + 2 < w.heap.size
set_option maxHeartbeats 1000000 in
theorem range_in (F : Fence) (n : Nat) (h1 : F.fn 75) (hro : F.round = none) (q : Option Addr) (c : Int) (w : World) :
    CallsIn F n Tryz.prog 75 #[.agg #[.pointer q, .int .i64 c], .int .i64 0, .int .i64 4096] w fun e w' => e = .returned (.func (.func 100) #[] #[.pointer (some ⟨w.heap.size, 0, none⟩), .pointer (some ⟨w.heap.size + 1, 0, none⟩), .pointer (some ⟨w.heap.size + 2, 0, none⟩)]) ∧
      w' = ((w.alloc (.cells #[.pointer q, .int .i64 c] TTree)).alloc (.cells #[.int .i64 0] 3)).alloc (.cells #[.int .i64 4096] 3) := by
  refine callsIn_of_wp Tryz.func75 rfl h1 ?_ hro
  simp only [Tryz.ntmps75, List.size_toArray, List.length_cons, List.length_nil, Nat.reduceAdd, Nat.reduceSub, Array.replicate_succ, Array.replicate_zero, List.push_toArray, List.append_toArray, List.nil_append, List.cons_append]
  gi_wp2
  go_ret
  exact ⟨rfl, rfl⟩
theorem cellAlloc {W : World} {a : Addr} {v : Value} (o : Obj) (h : W.cell? a = some v) : (W.alloc o).cell? a = some v := cell_kept h (World.grownBy_alloc W o none) (fun r e => by cases e)
theorem cellNew (W : World) (v : Value) (vs : List Value) (t : TypeId) : (W.alloc (.cells (v :: vs).toArray t)).cell? ⟨W.heap.size, 0, none⟩ = some v := by unfold World.cell?; rw [show (W.alloc (.cells (v :: vs).toArray t)).heap[W.heap.size]? = some (.cells (v :: vs).toArray t) from World.alloc_heap_new W _]; rfl
set_option maxHeartbeats 1000000 in
theorem all_in (F : Fence) (n : Nat) (hdd : ∀ k : Nat, (F.depth.isSome = true → 1 ≤ k)) (h1 : F.fn 50) (h2 : F.fn 75) (hro : F.round = none) (q : Option Addr) (c : Int) (w : World) :
    CallsIn F n Tryz.prog 50 #[.agg #[.pointer q, .int .i64 c]] w fun e w' => e = .returned (.func (.func 100) #[] #[.pointer (some ⟨w.heap.size + 1, 0, none⟩), .pointer (some ⟨w.heap.size + 1 + 1, 0, none⟩), .pointer (some ⟨w.heap.size + 1 + 2, 0, none⟩)]) ∧
      Below w.heap.size w w' ∧ RgAt w' (w.heap.size + 1) (.pointer q) := by
  have hr := range_in F (n - 1) h2 hro q c (w.alloc (.cells #[.pointer q, .int .i64 c] TTree))
  rw [World.size_alloc] at hr
  have HR := Lib.hid hr
  clear hr
  refine callsIn_of_wp Tryz.func50 rfl h1 ?_ hro
  simp only [Tryz.ntmps50, List.size_toArray, List.length_cons, List.length_nil, Nat.reduceAdd, Nat.reduceSub, Array.replicate_succ, Array.replicate_zero, List.push_toArray, List.append_toArray, List.nil_append, List.cons_append]
  gi_wp2_with ((try refine ⟨hdd _, ?_⟩); gi_at_call 75; refine HR.out.mono ?_; clear HR; rintro e W1 ⟨rfl, rfl⟩)
  go_ret
  refine ⟨rfl, ((((Below.refl _ _).alloc (Nat.le_refl _) _).alloc (by simp) _).alloc (by simp; omega) _).alloc (by simp; omega) _, ?_, ?_, ?_, by simp⟩
  · have h := cellNew (w.alloc (.cells #[.pointer q, .int .i64 c] TTree)) (.pointer q) [.int .i64 c] TTree
    rw [World.size_alloc] at h
    exact cellAlloc _ (cellAlloc _ h)
  · have h := cellNew ((w.alloc (.cells #[.pointer q, .int .i64 c] TTree)).alloc (.cells #[.pointer q, .int .i64 c] TTree)) (.int .i64 0) [] 3
    rw [World.size_alloc, World.size_alloc] at h
    exact cellAlloc _ h
  · have h := cellNew (((w.alloc (.cells #[.pointer q, .int .i64 c] TTree)).alloc (.cells #[.pointer q, .int .i64 c] TTree)).alloc (.cells #[.int .i64 0] 3)) (.int .i64 4096) [] 3
    rw [World.size_alloc, World.size_alloc, World.size_alloc] at h
    exact h
theorem all_stops (F : Fence) (hd : F.depth = none) (n : Nat) (h1 : F.fn 100) (hf : F.fn 101) (hro : F.round = none) (B n₀ : Nat) (r : Value) (m : MapM) (w : World) (hc : RgAt w B r) (hn₀ : n₀ ≤ w.heap.size) (hn : NodeOk TNode (· < n₀) w 2 r m) :
    SeqStopsK F n Tryz.prog 100 #[.pointer (some ⟨B, 0, none⟩), .pointer (some ⟨B + 1, 0, none⟩), .pointer (some ⟨B + 2, 0, none⟩)] encI (Below n₀) (fun ys => ys = items m) (fun pre => pre <+: items m) (items m).length w := fun l J Jx W hW _ _ hY h0 => by
  obtain ⟨h2, h3, h4, h5⟩ := hc
  exact range1_in F hd n h1 hf hro l n₀ B (B + 1) (B + 2) r m J Jx hY W ((hW.cell (p := ⟨B, 0, none⟩) (by simp only; omega)).trans h2) ((hW.cell (p := ⟨B + 1, 0, none⟩) (by simp only; omega)).trans h3) ((hW.cell (p := ⟨B + 2, 0, none⟩) (by simp only; omega)).trans h4)
    (NodeOk.below hW hn) (by have := hW.size; omega) h0
end Go.Proofs.YteikbikopgabjaaGreatDoor
end
section
namespace Go.Proofs.YteikbikopgabjaaGreatDoor
open Go.RowKit Go.Vol Go.Shelf
attribute [local go_sem] Oper.semAt_some
abbrev TCnt : TypeId := 109
def cntsC (f : Nat → Int) : Array Value := ((List.range 16).map fun t => Value.int .i64 (f t)).toArray
def hits (c : Int) (l : List (Nat × Int)) : Nat := (l.filter fun x => x.2 == c).length
def bump (f : Nat → Int) (t : Nat) (n : Nat) : Nat → Int := fun i => if i = t then f i + (n : Int) else f i
theorem cntsC_at (f : Nat → Int) {t : Nat} (h : t < 16) : (cntsC f)[t]? = some (.int .i64 (f t)) := by
  unfold cntsC
  rw [List.getElem?_toArray, List.getElem?_map, List.getElem?_range h]; rfl
theorem cntsC_set (f : Nat → Int) {t : Nat} : (cntsC f).setIfInBounds t (.int .i64 (f t + 1)) = cntsC (bump f t 1) := by
  unfold cntsC
  rw [List.setIfInBounds_toArray]
  congr 1
  apply List.ext_getElem?
  intro i
  rw [List.getElem?_set, List.length_map, List.length_range, List.getElem?_map, List.getElem?_map]
  unfold bump
  by_cases hi : t = i
  · subst hi
    by_cases h16 : t < 16
    · simp [h16]
    · simp [h16]
  · rw [if_neg hi]
    by_cases h16 : i < 16
    · rw [List.getElem?_range h16]; simp [Ne.symm hi]
    · simp [h16]
theorem bump_add (f : Nat → Int) (t a b : Nat) : bump (bump f t a) t b = bump f t (a + b) := by
  funext i
  unfold bump
  split <;> simp_all
  omega
theorem bump_zero (f : Nat → Int) (t : Nat) : bump f t 0 = f := by funext i; unfold bump; split <;> simp
theorem hits_snoc (c : Int) (l : List (Nat × Int)) (x : Nat × Int) : hits c (l ++ [x]) = hits c l + if x.2 = c then 1 else 0 := by
  unfold hits
  rw [List.filter_append, List.length_append]
  by_cases h : x.2 = c
  · simp [h]
  · simp [h]
theorem hits_le (c : Int) (l : List (Nat × Int)) : hits c l ≤ l.length := List.length_filter_le _ _
set_option maxRecDepth 100000 in
set_option maxHeartbeats 4000000 in
theorem count_in (F : Fence) (hd : F.depth = none) (n : Nat) (hn3 : 3 ≤ n) (h0 : F.fn 49) (h1 : F.fn 100) (h2 : F.fn 75) (h3 : F.fn 50) (h4 : F.fn 101) (hro : F.round = none)
    (K C ten : Nat) (chunk id nv : Int) (r : Value) (m : MapM) (f : Nat → Int) (w : World) (ht : ten < 16) (hf0 : 0 ≤ f ten) (hf1 : f ten < 4611686018427383808) (hK : w.cell? ⟨K, 0, none⟩ = some (.int .i64 chunk)) (hKC : K < C)
    (hC : w.heap[C]? = some (.cells (cntsC f) TCnt (0, 0))) (hn : NodeOk TNode (· < C) w 2 r m) :
    CallsIn F n Tryz.prog 49 #[.agg #[.int .i64 id, .int .i64 (ten : Int), r, .int .i64 nv], .pointer (some ⟨K, 0, none⟩), .pointer (some ⟨C, 0, none⟩)] w fun e w' =>
      (∃ v, e = .returned v) ∧ Below C w w' ∧ w'.heap[C]? = some (.cells (cntsC (bump f ten (hits chunk (items m)))) TCnt (0, 0)) := by
  have hdd : ∀ k : Nat, (F.depth.isSome = true → 1 ≤ k) := fun k h => by rw [hd] at h; cases h
  have h1n : 1 ≤ n := by omega
  have hCl : C < w.heap.size := (Array.getElem?_eq_some_iff.1 hC).1
  obtain ⟨q, rfl⟩ := NodeOk.ptr hn
  have HAL := Lib.hid (fun W => all_in F (n - 1) hdd h3 h2 hro q nv W)
  have HN := Lib.hid hn
  clear hn
  refine callsIn_of_wp_marks Tryz.func49 rfl h0 ?_ hro
  simp only [Tryz.ntmps49, List.size_toArray, List.length_cons, List.length_nil, Nat.reduceAdd, Nat.reduceSub, Array.replicate_succ, Array.replicate_zero, List.push_toArray, List.append_toArray, List.nil_append, List.cons_append]
  gi_wp2_with ((try refine ⟨hdd _, ?_⟩); gi_at_call 50; refine (HAL.out _).mono ?_; rintro e w' ⟨rfl, hb, hr⟩)
  rw [World.size_alloc] at hb hr
  have hb0 : Below w.heap.size w w' := ((Below.refl _ w).alloc (Nat.le_refl _) _).trans (hb.mono (by omega))
  have hbC : Below C w w' := hb0.mono (by omega)
  have hid : w'.cell? ⟨w.heap.size, 1, none⟩ = some (.int .i64 (ten : Int)) := by
    rw [hb.cell (p := ⟨w.heap.size, 1, none⟩) (by simp)]
    unfold World.cell?
    rw [World.alloc_heap_new]; rfl
  have hsz' : w.heap.size + 1 ≤ w'.heap.size := by have := hb.size; rw [World.size_alloc] at this; exact this
  have hl := items_len m
  have hl2 := cnt_le m
  have hKlt : K < w.heap.size := by omega
  refine wpIn_rangeFunc_ownF hro h1n (gf := 100) (lb := #[.pointer (some ⟨w.heap.size + 1 + 1, 0, none⟩), .pointer (some ⟨w.heap.size + 1 + 1 + 1, 0, none⟩), .pointer (some ⟨w.heap.size + 1 + 1 + 2, 0, none⟩)]) rfl h1 (enters_of Tryz.func100 (by kernel_rfl) rfl)
    (all_stops F hd (n - 1) h1 h4 hro (w.heap.size + 1 + 1) C (.pointer q) m w' hr (by omega) (HN.out.keep fun j hj _ => hbC.block j hj)) belowK_t (belowK_b (by omega)) (Below.refl _ _) (fun _ => rfl)
    (fun pre W => (W.cell? ⟨w.heap.size, 1, none⟩ = some (.int .i64 (ten : Int)) ∧ W.heap[C]? = some (.cells (cntsC (bump f ten (hits chunk pre))) TCnt (0, 0))) ∧ Below C w W)
    (fun _ _ _ => False)
    (OwnFrom.and (Own.from (fun s A B row hs hg hr => ⟨cell_kept hs.1 hg hr, (grownBy_keeps_cells hg hr hs.2 rfl).trans hs.2⟩) _) (ownFrom_below (by omega) (by omega)))
    (fun _ _ _ _ _ hs _ _ => hs)
    ⟨⟨hid, by rw [show hits chunk [] = 0 from rfl, bump_zero, hb0.block C hCl]; exact hC⟩, hbC⟩
    (fun x => { tmps := #[.agg #[.int .i64 id, .int .i64 (ten : Int), .pointer q, .int .i64 nv], .pointer (some ⟨K, 0, none⟩), .pointer (some ⟨C, 0, none⟩), .pointer (some ⟨w.heap.size, 0, none⟩), undef, .int .i64 x.2, .pointer (some ⟨w.heap.size, 2, none⟩), .agg #[.pointer q, .int .i64 nv],
      .func (.func 100) #[] #[.pointer (some ⟨w.heap.size + 1 + 1, 0, none⟩), .pointer (some ⟨w.heap.size + 1 + 1 + 1, 0, none⟩), .pointer (some ⟨w.heap.size + 1 + 1 + 2, 0, none⟩)], .int .i64 (x.1 : Int), .int .i64 x.2, undef, undef, undef, undef, undef, undef, undef, undef, undef], defers := [] }) ?assign ?body ?done ?stop
  case assign =>
    intro l x W K hK
    gi_wp2
    exact hK
  case body =>
    rintro l pre x W ⟨⟨hi, hc⟩, hB⟩ hpl
    have hk := (hB.cell (p := ⟨K, 0, none⟩) hKC).trans hK
    have hct : W.cell? ⟨C, ten, none⟩ = some (.int .i64 (bump f ten (hits chunk pre) ten)) := by unfold World.cell?; rw [hc]; exact cntsC_at _ ht
    have hfz : W.frozen? ⟨C, ten, none⟩ = false := by unfold World.frozen?; rw [hc]; simp
    have hv : bump f ten (hits chunk pre) ten = f ten + (hits chunk pre : Int) := by unfold bump; simp
    have hh := hits_le chunk pre
    have hti : (ten : Int) < 16 := by omega
    have hs := hits_snoc chunk pre x
    rw [hv] at hct
    have HS := Lib.hid (And.intro hs (And.intro hc hB))
    have hhi : (hits chunk pre : Int) ≤ 4096 := by omega
    generalize hpe : hits chunk pre = hp at hct hhi
    have HPE := Lib.hid hpe
    clear hs hc hB HN HAL hh hr hb hb0 hbC hid hpe
    gi_wp2
    · rename_i hx
      obtain ⟨hs, hc, hB⟩ := HS.out
      rw [if_pos (eq_of_beq hx)] at hs
      refine ⟨KeepsOthers.setCell _ _ _, (Below.refl C W).setCell (p := ⟨C, ten, none⟩) (Nat.le_refl _) _, ⟨?_, ?_⟩, hB.setCell (p := ⟨C, ten, none⟩) (Nat.le_refl _) _⟩
      · exact (World.cell?_of_block (w := W) (a := ⟨w.heap.size, 1, none⟩) (heap_setCell_other W ⟨C, ten, none⟩ w.heap.size _ (by simp only [ne_eq]; omega))).trans hi
      · rw [hs, ← bump_add, ← cntsC_set, hv, HPE.out]
        have hlt := (Array.getElem?_eq_some_iff.1 hc).1
        simp only [World.setCell, Array.getElem?_modify, hc]
        simp [HPE.out]
    · rename_i hx
      obtain ⟨hs, hc, hB⟩ := HS.out
      rw [if_neg (fun h => by rw [h] at hx; simp at hx), Nat.add_zero] at hs
      refine ⟨KeepsOthers.refl _, Below.refl _ _, ⟨hi, ?_⟩, hB⟩
      rw [hs]; exact hc
  case done =>
    rintro D ys W hD rfl ⟨⟨_, hc⟩, hB⟩ hK
    gi_wp2
    refine ⟨by simp, .inl ⟨_, _, rfl, run_takeDeferred hK, ?_⟩⟩
    exact ⟨_, results_none rfl _ _ _, ⟨_, rfl⟩, hB.trans (belowK_b (n₀ := C) (w := w) (by omega) W D _ _ (by omega) hK rfl rfl), (grownBy_keeps_cells (grownBy_putObj' W D (.deferred none)) (fun r e => by cases e; exact ⟨_, hK, rfl⟩) hc rfl).trans hc⟩
  case stop =>
    rintro D c pre W _ _ h _
    exact h.elim
theorem count_any (K C ten : Nat) (chunk id nv : Int) (r : Value) (m : MapM) (f : Nat → Int) (w : World) (ht : ten < 16) (hf0 : 0 ≤ f ten) (hf1 : f ten < 4611686018427383808) (hK : w.cell? ⟨K, 0, none⟩ = some (.int .i64 chunk)) (hKC : K < C)
    (hC : w.heap[C]? = some (.cells (cntsC f) TCnt (0, 0))) (hn : NodeOk TNode (· < C) w 2 r m) :
    Calls Tryz.prog 49 #[.agg #[.int .i64 id, .int .i64 (ten : Int), r, .int .i64 nv], .pointer (some ⟨K, 0, none⟩), .pointer (some ⟨C, 0, none⟩)] w fun e w' =>
      (∃ v, e = .returned v) ∧ Below C w w' ∧ w'.heap[C]? = some (.cells (cntsC (bump f ten (hits chunk (items m)))) TCnt (0, 0)) :=
  callsIn_wide.1 (count_in Fence.wide rfl 3 (by omega) trivial trivial trivial trivial trivial rfl K C ten chunk id nv r m f w ht hf0 hf1 hK hKC hC hn)
end Go.Proofs.YteikbikopgabjaaGreatDoor
end
