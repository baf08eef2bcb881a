import Derived.RangeFuncKeeps
import Derived.RangeFuncBound
import Derived.RangeFuncLeaves
import Derived.Shelf.Abstract
import Derived.WalkKit
import Derived.OwnWalkIn
import Derived.TacticsInMore
import Derived.LoopNIn
import Derived.LoopIn
import Derived.Sort.CutIn
import Derived.Test.YteikbikopgabjaaGreatDoorH11
import Derived.Test.YteikbikopgabjaaGreatDoorH14
import Derived.RangeFuncFrom
import Derived.Test.YteikbikopgabjaaGreatDoorH13
/- Part 15 of a proof; the last part says what is proved. -/
section
namespace Go.Proofs.YteikbikopgabjaaGreatDoor
open Go.RowKit Go.Vol Go.Shelf
attribute [local go_sem] Oper.semAt_some
theorem room_of_none' {F : Fence} (hd : F.depth = none) (k : Nat) : F.room k := fun d h => by rw [hd] at h; cases h
theorem RoundIn.anyDepth' {F : Fence} (hd : F.depth = none) {m m' : Nat} {P : Program} {l : Nat} {f : FuncId} {tmps : Array Value} {assign body : Code} {w : World} {R : Ending → World → Prop}
  (h : RoundIn F m P l f tmps assign body w R) : RoundIn F m' P l f tmps assign body w R := ⟨h.1, fun c cs _ => h.2 c cs (room_of_none' hd _)⟩
theorem YieldAt.anyDepth' {F : Fence} (hd : F.depth = none) {m : Nat} (m' : Nat) {P : Program} {l : Nat} {args : Array Value} {W : World} {R : Ending → World → Prop} (h : YieldAt F m P l args W R) : YieldAt F m' P l args W R := by
 obtain ⟨fn, tmps, assign, body, hy, hR⟩ := h
 exact ⟨fn, tmps, assign, body, hy, RoundIn.anyDepth' hd hR⟩
def Asks (F : Fence) (l n₀ N : Nat) (J Jx : List (Nat × Int) → World → Prop) : Prop :=
 ∀ m pre (x : Nat × Int) W, J pre W → pre.length < N → YieldAt F m Tryz.prog l #[.int .i64 (x.1 : Int), .int .i64 x.2] W fun e W' =>
   (e = .returned (.bool true) ∧ J (pre ++ [x]) W' ∧ Below n₀ W W') ∨ (e = .returned (.bool false) ∧ Jx (pre ++ [x]) W')
def Walks (F : Fence) (l n₀ N : Nat) (J Jx : List (Nat × Int) → World → Prop) (L : Nat) : Prop :=
 ∀ (n : Nat) (v : Value) (m : MapM) (first : Nat) (pre : List (Nat × Int)) (W : World), NodeOk TNode (· < n₀) W L v m → first + 16 ^ (L + 1) ≤ 4096 → n₀ ≤ W.heap.size → J pre W → pre.length + (itemsF (16 ^ (L + 1)) first m).length ≤ N →
  CallsIn F n Tryz.prog 101 #[v, .int .i64 (L : Int), .int .i64 (first : Int), .int .i64 0, .int .i64 4096, .func (.yield l) #[] #[]] W fun e W' =>
   (e = .returned (.bool true) ∧ J (pre ++ itemsF (16 ^ (L + 1)) first m) W' ∧ Below n₀ W W') ∨ (e = .returned (.bool false) ∧ ∃ q, q <+: itemsF (16 ^ (L + 1)) first m ∧ Jx (pre ++ q) W')
structure WalkSt (n₀ : Nat) (J : List (Nat × Int) → World → Prop) (q first : Nat) (m : MapM) (pre : List (Nat × Int)) (W : World) (v : Value) (wr : World) : Prop where
 st : ∃ k : Nat, k ≤ 16 ∧ v = .int .i64 (k : Int) ∧ J (pre ++ itemsF (k * q) first m) wr ∧ Below n₀ W wr
set_option maxRecDepth 100000 in
set_option maxHeartbeats 2000000 in
theorem walk0_in (F : Fence) (hd : F.depth = none) (hf : F.fn 101) (hro : F.round = none) (l n₀ N : Nat) (J Jx : List (Nat × Int) → World → Prop) (hY : Asks F l n₀ N J Jx) : Walks F l n₀ N J Jx 0 := by
 intro n v m first pre W hn hfi hsz hJ hN
 have hdd : ∀ k : Nat, (F.depth.isSome = true → 1 ≤ k) := fun k h => by rw [hd] at h; cases h
 have hQ : (16 : Nat) ^ (0 + 1) = 16 := by decide
 rw [hQ] at hfi
 have hfi1 : (first : Int) + 16 ≤ 4096 := by omega
 have hfi0 : (0 : Int) ≤ (first : Int) := by omega
 rw [hQ] at hN
 have HN := Lib.hid hN
 have HY := Lib.hid hY
 
 clear hY hN hfi
 obtain ⟨q0, rfl⟩ := NodeOk.ptr hn
 refine callsIn_of_wp Tryz.func101 rfl hf ?_ hro
 simp only [Tryz.ntmps101, List.size_toArray, List.length_cons, List.length_nil, Nat.reduceAdd, Nat.reduceSub, Array.replicate_succ, Array.replicate_zero, List.push_toArray, List.append_toArray, List.nil_append, List.cons_append]
 cases q0 with
 | none =>
  have hnil := itemsF_nil first _ (anyB_false.1 (NodeOk.nil hn))
  have HX := Lib.hid hnil
  clear hnil hn hdd
  gi_wp2
  go_ret
  refine .inl ⟨rfl, ?_, Below.refl _ _⟩
  rw [HX.out, List.append_nil]; exact hJ
 | some ad =>
  obtain ⟨b, rfl, hb, hb0, -⟩ := NodeOk.block hn
  have hst : WalkSt n₀ J 1 first m pre W (.int .i64 ((0 : Nat) : Int)) W := ⟨⟨0, by omega, rfl, by rw [Nat.zero_mul, itemsF_zero, List.append_nil]; exact hJ, Below.refl _ _⟩⟩
  have HST := Lib.hid hst
  clear hst hJ
  have HB := Lib.hid hn
  clear hn
  gi_wp2
  gi_loopw [14, 15, 21] (fun _ _ v wr => WalkSt n₀ J 1 first m pre W v wr) (fun _ _ v _ => 16 - (intOf v).toNat)
  case atStart => exact HST.out
  case round =>
   clear HST
   obtain ⟨k, hk, rfl, hJs, hbw⟩ := hrel.st
   clear hrel
   by_cases hk16 : k < 16
   ·have hki : (k : Int) < 16 := by omega
    obtain ⟨hh, -, -⟩ := NodeOk.leaf HB.out
    have hh2 := (hbw.block b hb0).trans hh
    obtain ⟨k0, -, k2⟩ := nodeC_at hh2 (by simp [nils])
    have k17 := k2 k _ (chs_at m hk16)
    have hbit := bit1 (has0 m) k (has0_lt m)
    rw [has0_bit m hk16] at hbit
    have hlt := has0_lt m
    generalize has0 m = hs at k0 hbit hlt
    clear k2 hh hh2
    cases hm : m k with
    | none =>
     rw [hm] at hbit
     have hbit2 : bits .and .u16 ((hs : Int) / 2 ^ k) 1 = 0 := hbit
     clear hbit k17 hb hsz hdd
     gi_wp2
     refine ⟨⟨⟨k + 1, by omega, by rw [Int.natCast_add]; rfl, ?_, hbw⟩⟩, by simp only [intOf]; omega⟩
     rw [Nat.mul_one] at hJs ⊢
     rw [itemsF_none hm]; exact hJs
    | some c =>
     rw [hm] at hbit k17
     have hbit2 : bits .and .u16 ((hs : Int) / 2 ^ k) 1 = 1 := hbit
     have hx : itemsF ((k + 1) * 1) first m = itemsF (k * 1) first m ++ [(first + k, c)] := by rw [Nat.mul_one, Nat.mul_one, itemsF_some hm]
     have hlen := itemsF_lenle (m := m) (first := first) (a := (k + 1) * 1) (b := 16) (by omega)
     obtain ⟨fn, tmps, assign, body, hy, hR⟩ := HY.out (n - 1) (pre ++ itemsF (k * 1) first m) (first + k, c) wr hJs (by have := HN.out; rw [hx] at hlen; simp at hlen ⊢; omega)
     dsimp only at hy
     rw [Int.natCast_add] at hy
     have HXS := Lib.hid hx
     clear hbit hx hlen hm hb hsz
     gi_wp2_with ((try refine ⟨hdd _, ?_⟩); refine hR.mono ?_; clear hR; rintro e W2 (⟨rfl, hJ2, hb2⟩ | ⟨rfl, hJx2⟩))
     ·refine ⟨⟨⟨k + 1, by omega, by rw [Int.natCast_add]; rfl, by rw [HXS.out, ← List.append_assoc]; exact hJ2, hbw.trans hb2⟩⟩, by simp only [intOf]; omega⟩
     ·rename_i hu _
      simp [undef] at hu
     ·rename_i hu _
      simp [undef] at hu
     ·go_ret
      exact .inr ⟨rfl, itemsF (k * 1) first m ++ [(first + k, c)], by rw [← HXS.out]; exact itemsF_prefix (by omega), by rw [← List.append_assoc]; exact hJx2⟩
   ·obtain rfl : k = 16 := by omega
    clear hb hsz hdd
    gi_wp2
    go_ret
    exact .inl ⟨rfl, hJs, hbw⟩
set_option maxRecDepth 100000 in
set_option maxHeartbeats 2000000 in
theorem walk1_in (F : Fence) (hd : F.depth = none) (hf : F.fn 101) (hro : F.round = none) (l n₀ N : Nat) (J Jx : List (Nat × Int) → World → Prop) (hY : Asks F l n₀ N J Jx) (ih : Walks F l n₀ N J Jx 0) : Walks F l n₀ N J Jx 1 := by
 intro n v m first pre W hn hfi hsz hJ hN
 have hdd : ∀ k : Nat, (F.depth.isSome = true → 1 ≤ k) := fun k h => by rw [hd] at h; cases h
 have hQ : (16 : Nat) ^ (1 + 1) = 256 := by decide
 rw [hQ] at hfi
 have hfi1 : (first : Int) + 256 ≤ 4096 := by omega
 have hfi0 : (0 : Int) ≤ (first : Int) := by omega
 rw [hQ] at hN
 have HN := Lib.hid hN
 have HY := Lib.hid hY
 have HIH := Lib.hid ih
 clear hY hN hfi ih
 obtain ⟨q0, rfl⟩ := NodeOk.ptr hn
 refine callsIn_of_wp Tryz.func101 rfl hf ?_ hro
 simp only [Tryz.ntmps101, List.size_toArray, List.length_cons, List.length_nil, Nat.reduceAdd, Nat.reduceSub, Array.replicate_succ, Array.replicate_zero, List.push_toArray, List.append_toArray, List.nil_append, List.cons_append]
 cases q0 with
 | none =>
  have hnil := itemsF_nil first _ (anyB_false.1 (NodeOk.nil hn))
  have HX := Lib.hid hnil
  clear hnil hn hdd
  gi_wp2
  go_ret
  refine .inl ⟨rfl, ?_, Below.refl _ _⟩
  rw [HX.out, List.append_nil]; exact hJ
 | some ad =>
  obtain ⟨b, rfl, hb, hb0, -⟩ := NodeOk.block hn
  have hst : WalkSt n₀ J 16 first m pre W (.int .i64 ((0 : Nat) : Int)) W := ⟨⟨0, by omega, rfl, by rw [Nat.zero_mul, itemsF_zero, List.append_nil]; exact hJ, Below.refl _ _⟩⟩
  have HST := Lib.hid hst
  clear hst hJ
  have HB := Lib.hid hn
  clear hn
  gi_wp2
  gi_loopw [14, 15, 21] (fun _ _ v wr => WalkSt n₀ J 16 first m pre W v wr) (fun _ _ v _ => 16 - (intOf v).toNat)
  case atStart => exact HST.out
  case round =>
   clear HST
   obtain ⟨k, hk, rfl, hJs, hbw⟩ := hrel.st
   clear hrel
   by_cases hk16 : k < 16
   ·have hki : (k : Int) < 16 := by omega
    obtain ⟨kids, hlen, hh, hkid, -, -⟩ := NodeOk.inner HB.out
    have hh2 := (hbw.block b hb0).trans hh
    obtain ⟨k0, k1, -⟩ := nodeC_at hh2 hlen
    obtain ⟨kd, hkd⟩ : ∃ kd, kids[k]? = some kd := ⟨_, List.getElem?_eq_getElem (by rw [hlen]; exact hk16)⟩
    have k17 := k1 _ _ hkd
    have hkn : NodeOk TNode (· < n₀) wr 0 kd (sub m 0 k) := (hkid _ _ hkd).keep fun j hj _ => hbw.block j hj
    have hbit := bit1 (hasS m 0) k (hasS_lt m 0)
    rw [hasS_bit m 0 hk16] at hbit
    have hlt := hasS_lt m 0
    generalize hasS m 0 = hs at k0 hbit hlt hh hh2
    have HKN := Lib.hid hkn
    obtain ⟨kq, rfl⟩ := NodeOk.ptr hkn
    clear k1 hh hh2 hkid hkn hkd hlen
    cases hm : anyB (16 ^ (0 + 1)) (sub m 0 k) with
    | false =>
     rw [hm] at hbit
     have hbit2 : bits .and .u16 ((hs : Int) / 2 ^ k) 1 = 0 := hbit
     have hx : itemsF ((k + 1) * 16) first m = itemsF (k * 16) first m := itemsF_sub_none first hm
     have HXS := Lib.hid hx
     clear hbit k17 hb hsz hdd hx hm
     gi_wp2
     exact ⟨⟨⟨k + 1, by omega, by rw [Int.natCast_add]; rfl, by rw [HXS.out]; exact hJs, hbw⟩⟩, by simp only [intOf]; omega⟩
    | true =>
     rw [hm] at hbit
     have hbit2 : bits .and .u16 ((hs : Int) / 2 ^ k) 1 = 1 := hbit
     have hx : itemsF ((k + 1) * 16) first m = itemsF (k * 16) first m ++ itemsF 16 (first + k * 16) (sub m 0 k) := itemsF_sub m 0 k first
     have hlen := itemsF_lenle (m := m) (first := first) (a := (k + 1) * 16) (b := 256) (by omega)
     have hf2 : first + k * 16 + 16 ^ (0 + 1) ≤ 4096 := by rw [show (16 : Nat) ^ (0 + 1) = 16 from by decide]; omega
     have hC := HIH.out (n - 1) (.pointer kq) (sub m 0 k) (first + k * 16) (pre ++ itemsF (k * 16) first m) wr HKN.out hf2 (by have := hbw.size; omega) hJs (by have := HN.out; rw [hx] at hlen; simp at hlen ⊢; omega)
     rw [show (16 : Nat) ^ (0 + 1) = 16 from by decide, show ((0 : Nat) : Int) = 0 from rfl, Int.natCast_add, Int.natCast_mul, show ((16 : Nat) : Int) = 16 from rfl] at hC
     have HXS := Lib.hid hx
     have HC := Lib.hid hC
     clear hbit hx hlen hm hb hsz hC hf2
     have hp1 : (0 : Int) < (first : Int) + (k : Int) * 16 + 16 := by omega
     have hp2 : (first : Int) + (k : Int) * 16 < 4096 := by omega
     gi_wp2
     refine ⟨fun _ h => (by cases h), ?_⟩
     gi_wp2_with ((try refine ⟨hdd _, ?_⟩); gi_at_call 101; refine HC.out.mono ?_; clear HC; rintro e W2 (⟨rfl, hJ2, hb2⟩ | ⟨rfl, q, hq, hJx2⟩))
     ·refine ⟨⟨⟨k + 1, by omega, by rw [Int.natCast_add]; rfl, by rw [HXS.out, ← List.append_assoc]; exact hJ2, hbw.trans hb2⟩⟩, by simp only [intOf]; omega⟩
     ·go_ret
      exact .inr ⟨rfl, itemsF (k * 16) first m ++ q, (List.prefix_append_right_inj _).2 hq |>.trans (by rw [← HXS.out]; exact itemsF_prefix (by omega)), by rw [← List.append_assoc]; exact hJx2⟩
   ·obtain rfl : k = 16 := by omega
    clear hb hsz hdd
    gi_wp2
    go_ret
    exact .inl ⟨rfl, hJs, hbw⟩
set_option maxRecDepth 100000 in
set_option maxHeartbeats 2000000 in
theorem walk2_in (F : Fence) (hd : F.depth = none) (hf : F.fn 101) (hro : F.round = none) (l n₀ N : Nat) (J Jx : List (Nat × Int) → World → Prop) (hY : Asks F l n₀ N J Jx) (ih : Walks F l n₀ N J Jx 1) : Walks F l n₀ N J Jx 2 := by
 intro n v m first pre W hn hfi hsz hJ hN
 have hdd : ∀ k : Nat, (F.depth.isSome = true → 1 ≤ k) := fun k h => by rw [hd] at h; cases h
 have hQ : (16 : Nat) ^ (2 + 1) = 4096 := by decide
 rw [hQ] at hfi
 have hfi1 : (first : Int) + 4096 ≤ 4096 := by omega
 have hfi0 : (0 : Int) ≤ (first : Int) := by omega
 rw [hQ] at hN
 have HN := Lib.hid hN
 have HY := Lib.hid hY
 have HIH := Lib.hid ih
 clear hY hN hfi ih
 obtain ⟨q0, rfl⟩ := NodeOk.ptr hn
 refine callsIn_of_wp Tryz.func101 rfl hf ?_ hro
 simp only [Tryz.ntmps101, List.size_toArray, List.length_cons, List.length_nil, Nat.reduceAdd, Nat.reduceSub, Array.replicate_succ, Array.replicate_zero, List.push_toArray, List.append_toArray, List.nil_append, List.cons_append]
 cases q0 with
 | none =>
  have hnil := itemsF_nil first _ (anyB_false.1 (NodeOk.nil hn))
  have HX := Lib.hid hnil
  clear hnil hn hdd
  gi_wp2
  go_ret
  refine .inl ⟨rfl, ?_, Below.refl _ _⟩
  rw [HX.out, List.append_nil]; exact hJ
 | some ad =>
  obtain ⟨b, rfl, hb, hb0, -⟩ := NodeOk.block hn
  have hst : WalkSt n₀ J 256 first m pre W (.int .i64 ((0 : Nat) : Int)) W := ⟨⟨0, by omega, rfl, by rw [Nat.zero_mul, itemsF_zero, List.append_nil]; exact hJ, Below.refl _ _⟩⟩
  have HST := Lib.hid hst
  clear hst hJ
  have HB := Lib.hid hn
  clear hn
  gi_wp2
  gi_loopw [14, 15, 21] (fun _ _ v wr => WalkSt n₀ J 256 first m pre W v wr) (fun _ _ v _ => 16 - (intOf v).toNat)
  case atStart => exact HST.out
  case round =>
   clear HST
   obtain ⟨k, hk, rfl, hJs, hbw⟩ := hrel.st
   clear hrel
   by_cases hk16 : k < 16
   ·have hki : (k : Int) < 16 := by omega
    obtain ⟨kids, hlen, hh, hkid, -, -⟩ := NodeOk.inner HB.out
    have hh2 := (hbw.block b hb0).trans hh
    obtain ⟨k0, k1, -⟩ := nodeC_at hh2 hlen
    obtain ⟨kd, hkd⟩ : ∃ kd, kids[k]? = some kd := ⟨_, List.getElem?_eq_getElem (by rw [hlen]; exact hk16)⟩
    have k17 := k1 _ _ hkd
    have hkn : NodeOk TNode (· < n₀) wr 1 kd (sub m 1 k) := (hkid _ _ hkd).keep fun j hj _ => hbw.block j hj
    have hbit := bit1 (hasS m 1) k (hasS_lt m 1)
    rw [hasS_bit m 1 hk16] at hbit
    have hlt := hasS_lt m 1
    generalize hasS m 1 = hs at k0 hbit hlt hh hh2
    have HKN := Lib.hid hkn
    obtain ⟨kq, rfl⟩ := NodeOk.ptr hkn
    clear k1 hh hh2 hkid hkn hkd hlen
    cases hm : anyB (16 ^ (1 + 1)) (sub m 1 k) with
    | false =>
     rw [hm] at hbit
     have hbit2 : bits .and .u16 ((hs : Int) / 2 ^ k) 1 = 0 := hbit
     have hx : itemsF ((k + 1) * 256) first m = itemsF (k * 256) first m := itemsF_sub_none first hm
     have HXS := Lib.hid hx
     clear hbit k17 hb hsz hdd hx hm
     gi_wp2
     exact ⟨⟨⟨k + 1, by omega, by rw [Int.natCast_add]; rfl, by rw [HXS.out]; exact hJs, hbw⟩⟩, by simp only [intOf]; omega⟩
    | true =>
     rw [hm] at hbit
     have hbit2 : bits .and .u16 ((hs : Int) / 2 ^ k) 1 = 1 := hbit
     have hx : itemsF ((k + 1) * 256) first m = itemsF (k * 256) first m ++ itemsF 256 (first + k * 256) (sub m 1 k) := itemsF_sub m 1 k first
     have hlen := itemsF_lenle (m := m) (first := first) (a := (k + 1) * 256) (b := 4096) (by omega)
     have hf2 : first + k * 256 + 16 ^ (1 + 1) ≤ 4096 := by rw [show (16 : Nat) ^ (1 + 1) = 256 from by decide]; omega
     have hC := HIH.out (n - 1) (.pointer kq) (sub m 1 k) (first + k * 256) (pre ++ itemsF (k * 256) first m) wr HKN.out hf2 (by have := hbw.size; omega) hJs (by have := HN.out; rw [hx] at hlen; simp at hlen ⊢; omega)
     rw [show (16 : Nat) ^ (1 + 1) = 256 from by decide, show ((1 : Nat) : Int) = 1 from rfl, Int.natCast_add, Int.natCast_mul, show ((256 : Nat) : Int) = 256 from rfl] at hC
     have HXS := Lib.hid hx
     have HC := Lib.hid hC
     clear hbit hx hlen hm hb hsz hC hf2
     have hp1 : (0 : Int) < (first : Int) + (k : Int) * 256 + 256 := by omega
     have hp2 : (first : Int) + (k : Int) * 256 < 4096 := by omega
     gi_wp2
     refine ⟨fun _ h => (by cases h), ?_⟩
     gi_wp2_with ((try refine ⟨hdd _, ?_⟩); gi_at_call 101; refine HC.out.mono ?_; clear HC; rintro e W2 (⟨rfl, hJ2, hb2⟩ | ⟨rfl, q, hq, hJx2⟩))
     ·refine ⟨⟨⟨k + 1, by omega, by rw [Int.natCast_add]; rfl, by rw [HXS.out, ← List.append_assoc]; exact hJ2, hbw.trans hb2⟩⟩, by simp only [intOf]; omega⟩
     ·go_ret
      exact .inr ⟨rfl, itemsF (k * 256) first m ++ q, (List.prefix_append_right_inj _).2 hq |>.trans (by rw [← HXS.out]; exact itemsF_prefix (by omega)), by rw [← List.append_assoc]; exact hJx2⟩
   ·obtain rfl : k = 16 := by omega
    clear hb hsz hdd
    gi_wp2
    go_ret
    exact .inl ⟨rfl, hJs, hbw⟩
theorem walkAll_in (F : Fence) (hd : F.depth = none) (hf : F.fn 101) (hro : F.round = none) (l n₀ N : Nat) (J Jx : List (Nat × Int) → World → Prop) (hY : Asks F l n₀ N J Jx) : Walks F l n₀ N J Jx 2 :=
 walk2_in F hd hf hro l n₀ N J Jx hY (walk1_in F hd hf hro l n₀ N J Jx hY (walk0_in F hd hf hro l n₀ N J Jx hY))
abbrev encI (x : Nat × Int) : Array Value := #[.int .i64 (x.1 : Int), .int .i64 x.2]
set_option maxHeartbeats 1000000 in
theorem range1_in (F : Fence) (hd : F.depth = none) (n : Nat) (h1 : F.fn 100) (hf : F.fn 101) (hro : F.round = none) (l n₀ B1 B2 B3 : Nat) (r : Value) (m : MapM) (J Jx : List (Nat × Int) → World → Prop)
  (hY : ∀ pre x W, J pre W → pre.length < (items m).length → YieldAt F (n - 1) Tryz.prog l (encI x) W fun e W' =>
   (e = .returned (.bool true) ∧ J (pre ++ [x]) W' ∧ Below n₀ W W') ∨ (e = .returned (.bool false) ∧ Jx (pre ++ [x]) W'))
  (W : World) (hB1 : W.cell? ⟨B1, 0, none⟩ = some r) (hB2 : W.cell? ⟨B2, 0, none⟩ = some (.int .i64 0)) (hB3 : W.cell? ⟨B3, 0, none⟩ = some (.int .i64 4096)) (hn : NodeOk TNode (· < n₀) W 2 r m) (hsz : n₀ ≤ W.heap.size) (h0 : J [] W) :
  CallsIn F n Tryz.prog 100 #[.func (.yield l) #[] #[], .pointer (some ⟨B1, 0, none⟩), .pointer (some ⟨B2, 0, none⟩), .pointer (some ⟨B3, 0, none⟩)] W fun e W' => (∃ v, e = .returned v) ∧
   ((∃ ys, ys = items m ∧ J ys W') ∨ (∃ pre, pre <+: items m ∧ Jx pre W')) := by
 have hdd : ∀ k : Nat, (F.depth.isSome = true → 1 ≤ k) := fun k h => by rw [hd] at h; cases h
 have hp := walkAll_in F hd hf hro l n₀ (items m).length J Jx (fun m' pre x W hj hl => YieldAt.anyDepth' hd m' (hY pre x W hj hl)) (n - 1) r m 0 [] W hn (by decide) hsz h0 (by rw [show (16 : Nat) ^ (2 + 1) = 4096 from by decide]; simp [items])
 rw [show (16 : Nat) ^ (2 + 1) = 4096 from by decide, List.nil_append, show itemsF 4096 0 m = items m from rfl, show ((0 : Nat) : Int) = 0 from rfl, show ((2 : Nat) : Int) = 2 from rfl] at hp
 have HP := Lib.hid hp
 obtain ⟨q, rfl⟩ := NodeOk.ptr hn
 clear hp hn
 refine callsIn_of_wp Tryz.func100 rfl h1 ?_ hro
 simp only [Tryz.ntmps100, List.size_toArray, List.length_cons, List.length_nil, Nat.reduceAdd, Nat.reduceSub, Array.replicate_succ, Array.replicate_zero, List.push_toArray, List.append_toArray, List.nil_append, List.cons_append]
 gi_wp2_with ((try refine ⟨hdd _, ?_⟩); gi_at_call 101; refine HP.out.mono ?_; clear HP; rintro e W1 (⟨rfl, hJ1, _⟩ | ⟨rfl, q, hq, hx⟩))
 ·go_end0
  exact ⟨⟨_, rfl⟩, .inl ⟨_, rfl, hJ1⟩⟩
 ·go_end0
  exact ⟨⟨_, rfl⟩, .inr ⟨q, hq, by simpa using hx⟩⟩
def RgAt (w : World) (B : Nat) (r : Value) : Prop := w.cell? ⟨B, 0, none⟩ = some r ∧ w.cell? ⟨B + 1, 0, none⟩ = some (.int .i64 0) ∧ w.cell? ⟨B + 2, 0, none⟩ = some (.int .i64 4096) ∧ B + 2 < w.heap.size
set_option maxHeartbeats 1000000 in
theorem range_in (F : Fence) (n : Nat) (h1 : F.fn 75) (hro : F.round = none) (q : Option Addr) (c : Int) (w : World) :
  CallsIn F n Tryz.prog 75 #[.agg #[.pointer q, .int .i64 c], .int .i64 0, .int .i64 4096] w fun e w' => e = .returned (.func (.func 100) #[] #[.pointer (some ⟨w.heap.size, 0, none⟩), .pointer (some ⟨w.heap.size + 1, 0, none⟩), .pointer (some ⟨w.heap.size + 2, 0, none⟩)]) ∧
   w' = ((w.alloc (.cells #[.pointer q, .int .i64 c] TTree)).alloc (.cells #[.int .i64 0] 3)).alloc (.cells #[.int .i64 4096] 3) := by
 refine callsIn_of_wp Tryz.func75 rfl h1 ?_ hro
 simp only [Tryz.ntmps75, List.size_toArray, List.length_cons, List.length_nil, Nat.reduceAdd, Nat.reduceSub, Array.replicate_succ, Array.replicate_zero, List.push_toArray, List.append_toArray, List.nil_append, List.cons_append]
 gi_wp2
 go_ret
 exact ⟨rfl, rfl⟩
theorem cellAlloc {W : World} {a : Addr} {v : Value} (o : Obj) (h : W.cell? a = some v) : (W.alloc o).cell? a = some v := cell_kept h (World.grownBy_alloc W o none) (fun r e => by cases e)
theorem cellNew (W : World) (v : Value) (vs : List Value) (t : TypeId) : (W.alloc (.cells (v :: vs).toArray t)).cell? ⟨W.heap.size, 0, none⟩ = some v := by unfold World.cell?; rw [show (W.alloc (.cells (v :: vs).toArray t)).heap[W.heap.size]? = some (.cells (v :: vs).toArray t) from World.alloc_heap_new W _]; rfl
set_option maxHeartbeats 1000000 in
theorem all_in (F : Fence) (n : Nat) (hdd : ∀ k : Nat, (F.depth.isSome = true → 1 ≤ k)) (h1 : F.fn 50) (h2 : F.fn 75) (hro : F.round = none) (q : Option Addr) (c : Int) (w : World) :
  CallsIn F n Tryz.prog 50 #[.agg #[.pointer q, .int .i64 c]] w fun e w' => e = .returned (.func (.func 100) #[] #[.pointer (some ⟨w.heap.size + 1, 0, none⟩), .pointer (some ⟨w.heap.size + 1 + 1, 0, none⟩), .pointer (some ⟨w.heap.size + 1 + 2, 0, none⟩)]) ∧
   Below w.heap.size w w' ∧ RgAt w' (w.heap.size + 1) (.pointer q) := by
 have hr := range_in F (n - 1) h2 hro q c (w.alloc (.cells #[.pointer q, .int .i64 c] TTree))
 rw [World.size_alloc] at hr
 have HR := Lib.hid hr
 clear hr
 refine callsIn_of_wp Tryz.func50 rfl h1 ?_ hro
 simp only [Tryz.ntmps50, List.size_toArray, List.length_cons, List.length_nil, Nat.reduceAdd, Nat.reduceSub, Array.replicate_succ, Array.replicate_zero, List.push_toArray, List.append_toArray, List.nil_append, List.cons_append]
 gi_wp2_with ((try refine ⟨hdd _, ?_⟩); gi_at_call 75; refine HR.out.mono ?_; clear HR; rintro e W1 ⟨rfl, rfl⟩)
 go_ret
 refine ⟨rfl, ((((Below.refl _ _).alloc (Nat.le_refl _) _).alloc (by simp) _).alloc (by simp; omega) _).alloc (by simp; omega) _, ?_, ?_, ?_, by simp⟩
 ·have h := cellNew (w.alloc (.cells #[.pointer q, .int .i64 c] TTree)) (.pointer q) [.int .i64 c] TTree
  rw [World.size_alloc] at h
  exact cellAlloc _ (cellAlloc _ h)
 ·have h := cellNew ((w.alloc (.cells #[.pointer q, .int .i64 c] TTree)).alloc (.cells #[.pointer q, .int .i64 c] TTree)) (.int .i64 0) [] 3
  rw [World.size_alloc, World.size_alloc] at h
  exact cellAlloc _ h
 ·have h := cellNew (((w.alloc (.cells #[.pointer q, .int .i64 c] TTree)).alloc (.cells #[.pointer q, .int .i64 c] TTree)).alloc (.cells #[.int .i64 0] 3)) (.int .i64 4096) [] 3
  rw [World.size_alloc, World.size_alloc, World.size_alloc] at h
  exact h
theorem all_stops (F : Fence) (hd : F.depth = none) (n : Nat) (h1 : F.fn 100) (hf : F.fn 101) (hro : F.round = none) (B n₀ : Nat) (r : Value) (m : MapM) (w : World) (hc : RgAt w B r) (hn₀ : n₀ ≤ w.heap.size) (hn : NodeOk TNode (· < n₀) w 2 r m) :
  SeqStopsK F n Tryz.prog 100 #[.pointer (some ⟨B, 0, none⟩), .pointer (some ⟨B + 1, 0, none⟩), .pointer (some ⟨B + 2, 0, none⟩)] encI (Below n₀) (fun ys => ys = items m) (fun pre => pre <+: items m) (items m).length w := fun l J Jx W hW _ _ hY h0 => by
 obtain ⟨h2, h3, h4, h5⟩ := hc
 exact range1_in F hd n h1 hf hro l n₀ B (B + 1) (B + 2) r m J Jx hY W ((hW.cell (p := ⟨B, 0, none⟩) (by simp only; omega)).trans h2) ((hW.cell (p := ⟨B + 1, 0, none⟩) (by simp only; omega)).trans h3) ((hW.cell (p := ⟨B + 2, 0, none⟩) (by simp only; omega)).trans h4)
  (NodeOk.below hW hn) (by have := hW.size; omega) h0
end Go.Proofs.YteikbikopgabjaaGreatDoor
end
section
namespace Go.Proofs.YteikbikopgabjaaGreatDoor
open Go.RowKit Go.Vol Go.Sl
def refE (x : Nat × Int) : List Value := [.int .i64 (x.1 : Int), .int .i64 x.2]
end Go.Proofs.YteikbikopgabjaaGreatDoor
end
section
namespace Go.Proofs.YteikbikopgabjaaGreatDoor
open Go.RowKit Go.Vol Go.Sl
theorem _root_.Go.Sl.Sat.drewN {w : World} {P : HProp} (h : Sat w P) (n : Nat) : Sat (w.drewN n) P := h
theorem _root_.Go.Sl.Same.drewN {w w' : World} (h : Same w w') (n : Nat) : Same w (w'.drewN n) := h.trans ⟨rfl, rfl, rfl, Nat.le_refl _⟩
def rpE (x : ElM) : List Value := [.int .i64 x.1.id, .int .i64 x.1.tenant, .int .i64 x.1.src, x.2]
def RowK (ok : Nat → Prop) (w : World) (v : Value) (n : Nat) (L : List Value) : Prop := ∃ ao cap, v = .slice ao n cap ∧ (n ≤ cap ∧ (ao = none → cap = 0)) ∧ cap ≤ maxLen ∧ (0 < n → ∃ b : Nat, ao = some ⟨b, 0, none⟩ ∧ ok b ∧ b < w.heap.size ∧ ∀ j u, L[j]? = some u → w.cell? ⟨b, j, none⟩ = some u)
theorem RowK.rows {ok : Nat → Prop} {w : World} {v : Value} {n : Nat} {L : List Value} (h : RowK ok w v n L) : RowsAt w v n L := by
 obtain ⟨ao, cap, h1, h2, h3, h4⟩ := h
 exact ⟨ao, cap, h1, h2, h3, fun hn => by obtain ⟨b, h5, _, h6, h7⟩ := h4 hn; exact ⟨b, h5, h6, h7⟩⟩
theorem RowK.weaken {ok ok' : Nat → Prop} {w : World} {v : Value} {n : Nat} {L : List Value} (h : RowK ok w v n L) (hk : ∀ b, ok b → b < w.heap.size → ok' b) : RowK ok' w v n L := by
 obtain ⟨ao, cap, h1, h2, h3, h4⟩ := h
 exact ⟨ao, cap, h1, h2, h3, fun hn => by obtain ⟨b, h5, h0, h6, h7⟩ := h4 hn; exact ⟨b, h5, hk b h0 h6, h6, h7⟩⟩
theorem RowK.keep {ok : Nat → Prop} {w w' : World} {v : Value} {n : Nat} {L : List Value} (h : RowK ok w v n L) (hs : w.heap.size ≤ w'.heap.size) (hk : ∀ b, ok b → b < w.heap.size → w'.heap[b]? = w.heap[b]?) : RowK ok w' v n L := by
 obtain ⟨ao, cap, h1, h2, h3, h4⟩ := h
 refine ⟨ao, cap, h1, h2, h3, fun hn => ?_⟩
 obtain ⟨b, h5, h0, h6, h7⟩ := h4 hn
 exact ⟨b, h5, h0, by omega, fun j u hu => by rw [World.cell?_of_block (w := w) (hk b h0 h6)]; exact h7 j u hu⟩
theorem RowK.nil (ok : Nat → Prop) (w : World) : RowK ok w (.slice none 0 0) 0 [] := ⟨none, 0, rfl, ⟨Nat.le_refl _, fun _ => rfl⟩, by unfold maxLen; omega, fun h => absurd h (Nat.lt_irrefl _)⟩
theorem RowsAt.k {w : World} {v : Value} {n : Nat} {L : List Value} (h : RowsAt w v n L) : RowK (fun _ => True) w v n L := by
 obtain ⟨ao, cap, h1, h2, h3, h4⟩ := h
 exact ⟨ao, cap, h1, h2, h3, fun hn => by obtain ⟨b, h5, h6, h7⟩ := h4 hn; exact ⟨b, h5, trivial, h6, h7⟩⟩
theorem old_ge {w W : World} {g : Nat} {o : Obj} {R : HProp} (h : Sat W (pts g o * (R * old w))) : w.heap.size ≤ g := by
 obtain ⟨_, ⟨a, x, rfl, ⟨r, s, _, rfl, _, rfl⟩, hd, rfl⟩, _⟩ := h
 rcases Nat.lt_or_ge g w.heap.size with hlt | hge
 ·exfalso
  rcases hd g with h | h
  ·simp at h
  ·have e : w.heap[g]? = some w.heap[g] := Array.getElem?_eq_getElem hlt
   simp only [un, e] at h
   cases hr : r g with
   | none => rw [hr] at h; simp at h
   | some q => rw [hr] at h; simp at h
 ·exact hge
theorem RowK.own {w W : World} {T : TypeId} {k n : Nat} {v : Value} {L : List Value} {R : HProp} (h : Sat W (ownAt T k v n L * (R * old w))) (_hk : 0 < k) : RowK (fun b => w.heap.size ≤ b) W v n L := by
 rcases ownAt_iff.1 h with ⟨rfl, rfl, rfl, _⟩ | ⟨g, cap, cur, ⟨rfl, h1, h2, h3, h4, h5⟩, hs⟩
 ·exact RowK.nil _ W
 ·refine ⟨_, cap, rfl, ⟨h1, by simp⟩, h2, fun hn => ⟨g, rfl, old_ge hs, hs.lt, fun j u hu => ?_⟩⟩
  rw [cells_at hs.block, ← Array.getElem?_toList]
  rw [← h4, List.getElem?_take] at hu
  split at hu
  ·exact hu
  ·cases hu
def MapRow (ok : Nat → Prop) (w : World) (x : ElM) : Prop := RowK ok w x.2 (items x.1.m).length ((items x.1.m).flatMap refE)
def RefL (ok : Nat → Prop) (w : World) (v : Value) (L : List PartM) : Prop := ∃ l : List ElM, l.map Prod.fst = L ∧ RowK ok w v l.length (l.flatMap rpE) ∧ ∀ x ∈ l, MapRow ok w x
structure RefAt (ok : Nat → Prop) (w : World) (vv vs : Value) (S : SpaceM) : Prop where
 v : RefL ok w vv S.vols
 s : RefL ok w vs S.snaps
theorem RefL.keep {ok : Nat → Prop} {w w' : World} {v : Value} {L : List PartM} (h : RefL ok w v L) (hs : w.heap.size ≤ w'.heap.size) (hk : ∀ b, ok b → b < w.heap.size → w'.heap[b]? = w.heap[b]?) : RefL ok w' v L := by
 obtain ⟨l, h1, h2, h3⟩ := h
 exact ⟨l, h1, h2.keep hs hk, fun x hx => (h3 x hx).keep hs hk⟩
theorem RefL.weaken {ok ok' : Nat → Prop} {w : World} {v : Value} {L : List PartM} (h : RefL ok w v L) (hk : ∀ b, ok b → b < w.heap.size → ok' b) : RefL ok' w v L := by
 obtain ⟨l, h1, h2, h3⟩ := h
 exact ⟨l, h1, h2.weaken hk, fun x hx => (h3 x hx).weaken hk⟩
theorem RefL.below {ok : Nat → Prop} {w w' : World} {v : Value} {L : List PartM} (h : RefL ok w v L) (hb : Below w.heap.size w w') : RefL ok w' v L := h.keep hb.size fun b _ hl => hb.block b hl
theorem RowK.below {ok : Nat → Prop} {w w' : World} {v : Value} {n : Nat} {L : List Value} (h : RowK ok w v n L) (hb : Below w.heap.size w w') : RowK ok w' v n L := h.keep hb.size fun b _ hl => hb.block b hl
theorem RefAt.below {ok : Nat → Prop} {w w' : World} {vv vs : Value} {S : SpaceM} (h : RefAt ok w vv vs S) (hb : Below w.heap.size w w') : RefAt ok w' vv vs S := ⟨h.v.below hb, h.s.below hb⟩
theorem RefAt.weaken {ok ok' : Nat → Prop} {w : World} {vv vs : Value} {S : SpaceM} (h : RefAt ok w vv vs S) (hk : ∀ b, ok b → b < w.heap.size → ok' b) : RefAt ok' w vv vs S := ⟨h.v.weaken hk, h.s.weaken hk⟩
theorem RefAt.keep {ok : Nat → Prop} {w w' : World} {vv vs : Value} {S : SpaceM} (h : RefAt ok w vv vs S) (hs : w.heap.size ≤ w'.heap.size) (hk : ∀ b, ok b → b < w.heap.size → w'.heap[b]? = w.heap[b]?) : RefAt ok w' vv vs S := ⟨h.v.keep hs hk, h.s.keep hs hk⟩
theorem RefL.nil (ok : Nat → Prop) (w : World) : RefL ok w (.slice none 0 0) [] := ⟨[], rfl, RowK.nil ok w, fun x hx => absurd hx (by simp)⟩
theorem RefL.slice {ok : Nat → Prop} {w : World} {v : Value} {L : List PartM} (h : RefL ok w v L) : ∃ a c, v = .slice a L.length c ∧ L.length ≤ c ∧ c ≤ maxLen := by
 obtain ⟨l, rfl, ⟨a, c, rfl, h2, h3, _⟩, _⟩ := h
 rw [List.length_map]
 exact ⟨a, c, rfl, h2.1, h3⟩
theorem MapRow.slice {ok : Nat → Prop} {w : World} {x : ElM} (h : MapRow ok w x) : ∃ a c, x.2 = .slice a (items x.1.m).length c := by
 obtain ⟨a, c, e, _⟩ := h
 exact ⟨a, c, e⟩
theorem sat_block {w : World} {b : Nat} {o : Obj} (h : w.heap[b]? = some o) : Sat w (pts b o * emp) := by
 rw [star_emp]
 refine ⟨_, rfl, fun k o2 hk => ?_⟩
 by_cases hkb : k = b
 ·subst hkb
  simp only [if_true, Option.some.injEq] at hk
  subst hk; exact h
 ·rw [if_neg hkb] at hk; cases hk
end Go.Proofs.YteikbikopgabjaaGreatDoor
end
section
namespace Go.Proofs.YteikbikopgabjaaGreatDoor
open Go.RowKit Go.Vol Go.Sl
theorem items_split (m : MapM) {b : Nat} (hb : b < 4096) : items m = itemsF b 0 m ++ ((m b).map fun c => (b, c)).toList ++ itemsF (4095 - b) (b + 1) (fun i => m (b + 1 + i)) := by
 rw [show items m = itemsF (b + 1 + (4095 - b)) 0 m from by unfold items; congr 1; omega, itemsF_add, Nat.zero_add, itemsF_succ, Nat.zero_add]
theorem items_upd {m : MapM} {b : Nat} {x : Option Int} (hb : b < 4096) : items (upd m b x) = itemsF b 0 m ++ (x.map fun c => (b, c)).toList ++ itemsF (4095 - b) (b + 1) (fun i => m (b + 1 + i)) := by
 rw [items_split _ hb]
 congr 1
 ·congr 1
  ·exact itemsF_congr 0 b fun i hi => by unfold upd; rw [if_neg (by omega)]
  ·unfold upd; rw [if_pos rfl]
 ·exact itemsF_congr (b + 1) _ fun i hi => by unfold upd; rw [if_neg (by omega)]
end Go.Proofs.YteikbikopgabjaaGreatDoor
end
section
namespace Go.Proofs.YteikbikopgabjaaGreatDoor
open Go.RowKit Go.Vol Go.Vol.SpaceM
def sumN : Nat → (Nat → Int) → Int
 | 0, _ => 0
 | n + 1, g => sumN n g + g n
end Go.Proofs.YteikbikopgabjaaGreatDoor
end
section
namespace Go.Proofs.YteikbikopgabjaaGreatDoor
open Go.RowKit Go.Vol Go.Vol.SpaceM Go.Sl
def addN (l : List (Nat × Int)) : MapM := l.foldl (fun m x => upd m x.1 (some x.2)) Vol.empty
theorem addN_snoc (l : List (Nat × Int)) (x : Nat × Int) : addN (l ++ [x]) = upd (addN l) x.1 (some x.2) := by unfold addN; rw [List.foldl_append]; rfl
theorem cntF_empty : ∀ n, cntF n Vol.empty = 0
 | 0 => rfl
 | n + 1 => by rw [cntF_succ, cntF_empty n]; rfl
theorem cnt_empty : cnt (addN []) = 0 := cntF_empty 4096
end Go.Proofs.YteikbikopgabjaaGreatDoor
end
section
namespace Go.Proofs.YteikbikopgabjaaGreatDoor
open Go.RowKit Go.Vol Go.Sl
theorem exec_app27 {a : Act} {w : World} {o : Oper} {x y : Operand} {t : TypeId} {v u v' : Value} {w' : World} (ho : o.op = .call { callee := .builtin .append, args := #[x, y], argTypes := #[t, t] }) (hx : a.eval x = v) (hy : a.eval y = u)
  (h : (Builtin.append_ #[t, t] o.type #[v, u]).run Tryz.prog w = .ok v' w') : (execOp a.eval o).run Tryz.prog w = .ok (.value v') w' := by
 unfold execOp
 simp only [ho, resolve, invoke, builtin, Sem.run_bind, Sem.run_pure, Result.andThen_ok, List.map_toArray, List.map_cons, List.map_nil, hx, hy, h]
abbrev TVi : TypeId := 142
abbrev TSi : TypeId := 148
def viE (p : PartM) : List Value := [.int .i64 p.id, .int .i64 p.tenant, .int .i64 (cnt p.m : Int)]
def siE (p : PartM) : List Value := [.int .i64 p.id, .int .i64 p.src, .int .i64 p.tenant, .int .i64 (cnt p.m : Int)]
theorem viE_len (x : PartM) : (viE x).length = 3 := rfl
theorem siE_len (x : PartM) : (siE x).length = 4 := rfl
theorem info_vi : (Tryz.prog.info? TVi).map (fun i => (i.zero, i.size, i.bytes)) = some (some (.agg #[.int .i64 0, .int .i64 0, .int .i64 0]), 3, 24) := by kernel_rfl
theorem info_si : (Tryz.prog.info? TSi).map (fun i => (i.zero, i.size, i.bytes)) = some (some (.agg #[.int .i64 0, .int .i64 0, .int .i64 0, .int .i64 0]), 4, 32) := by kernel_rfl
structure ListSt (T : TypeId) (n : Nat) (enc : PartM → List Value) (w0 : World) (L : List PartM) (v i : Value) (wr : World) : Prop where
 st : ∃ k : Nat, k ≤ L.length ∧ i = .int .i64 (k : Int) ∧ Same w0 wr ∧ Sat wr (ownAt T n v k ((L.take k).flatMap enc) * old w0)
set_option maxHeartbeats 1000000 in
theorem treeLen_any (q : Option Addr) (nv : Int) (w : World) :
  Calls Tryz.prog 85 #[.agg #[.pointer q, .int .i64 nv]] w fun e w' => e = .returned (.int .i64 nv) ∧ w' = w.alloc (.cells #[.pointer q, .int .i64 nv] TTree) := by
 go_enter Tryz.func85, Tryz.ntmps85
 go_wp2
 go_ret
 exact ⟨rfl, rfl⟩
end Go.Proofs.YteikbikopgabjaaGreatDoor
end
