import Derived.WalkKit
import Derived.RangeFuncRecord
import Derived.Test.YteikbikopgabjaaGreatDoorRows
import Derived.Laws.BitsAllLaws
import Derived.IntWalk
import Derived.Lib.Hide
import Derived.Deep.Cut
import Derived.Deep.QuietTactic
import Derived.BigQuiet
import Derived.WalkSmall
import Derived.Test.YteikbikopgabjaaGreatDoorH04
import Derived.Test.YteikbikopgabjaaGreatDoorH02
/- Part 5 of a proof; the last part says what is proved. -/
namespace Go.GF
open Go Go.RowKit
theorem i64_xor_nat' (a b : Nat) (ha : a < 4611686018427387904) (hb : b < 4611686018427387904) : bits .xor .i64 (a : Int) (b : Int) = ((a ^^^ b : Nat) : Int) := by
 have hx : a ^^^ b < 2 ^ 62 := Nat.xor_lt_two_pow (by omega) (by omega)
 have h1 : (BitVec.ofInt 64 (a : Int)).toNat = a := by
  rw [BitVec.ofInt_natCast, BitVec.toNat_ofNat]; exact Nat.mod_eq_of_lt (by omega)
 have h2 : (BitVec.ofInt 64 (b : Int)).toNat = b := by
  rw [BitVec.ofInt_natCast, BitVec.toNat_ofNat]; exact Nat.mod_eq_of_lt (by omega)
 show IntKind.i64.wrap ((BitVec.ofInt 64 (a : Int) ^^^ BitVec.ofInt 64 (b : Int)).toNat : Int) = _
 rw [BitVec.toNat_xor, h1, h2]
 exact IntWalk.i64_in _ (by omega)
theorem i64_and1 (a : Nat) (ha : a < 4611686018427387904) : bits .and .i64 (a : Int) 1 = ((a % 2 : Nat) : Int) := by
 have hx : a &&& 1 < 2 ^ 62 := Nat.and_lt_two_pow _ (by omega)
 have h1 : (BitVec.ofInt 64 (a : Int)).toNat = a := by
  rw [BitVec.ofInt_natCast, BitVec.toNat_ofNat]; exact Nat.mod_eq_of_lt (by omega)
 show IntKind.i64.wrap ((BitVec.ofInt 64 (a : Int) &&& BitVec.ofInt 64 (1 : Int)).toNat : Int) = _
 rw [BitVec.toNat_and, h1, show (BitVec.ofInt 64 (1 : Int)).toNat = 1 from rfl, ← Nat.and_one_is_mod]
 exact IntWalk.i64_in _ (by omega)
def RowI (w : World) (v : Value) (L : List Value) : Prop :=
 ∃ ao cap, v = .slice ao L.length cap ∧ L.length ≤ cap ∧ cap ≤ maxLen ∧ (0 < L.length → ∃ b off : Nat, ao = some ⟨b, off, none⟩ ∧ b < w.heap.size ∧ ∀ j u, L[j]? = some u → w.cell? ⟨b, off + j, none⟩ = some u)
theorem RowI.below {w w' : World} {v : Value} {L : List Value} (h : RowI w v L) (hb : Below w.heap.size w w') : RowI w' v L := by
 obtain ⟨ao, cap, h1, h2, h3, h4⟩ := h
 refine ⟨ao, cap, h1, h2, h3, fun hn => ?_⟩
 obtain ⟨b, off, e, hl, hc⟩ := h4 hn
 exact ⟨b, off, e, Nat.lt_of_lt_of_le hl hb.size, fun j u hu => (hb.cell (p := ⟨b, off + j, none⟩) hl).trans (hc j u hu)⟩
def intsV (L : List Int) : List Value := L.map fun x => .int .i64 x
theorem intsV_len (L : List Int) : (intsV L).length = L.length := List.length_map _
theorem intsV_at {L : List Int} {j : Nat} {x : Int} (h : L[j]? = some x) : (intsV L)[j]? = some (.int .i64 x) := by unfold intsV; rw [List.getElem?_map, h]; rfl
theorem RowI.alloc {W : World} {c : List Value} {t : TypeId} (hn : c.length ≤ maxLen) : RowI (W.alloc (.cells c.toArray t)) (.slice (some ⟨W.heap.size, 0, none⟩) c.length c.length) c := by
 refine ⟨_, _, rfl, Nat.le_refl _, hn, fun _ => ⟨W.heap.size, 0, rfl, by simp, fun j u hu => ?_⟩⟩
 unfold World.cell?
 rw [show (W.alloc (.cells c.toArray t)).heap[W.heap.size]? = some (.cells c.toArray t) from World.alloc_heap_new W _]
 simpa using hu
def modI (m : Int) : Int := if m = 8 then 285 else if m = 16 then 69643 else 0
def elB (m : Int) (x : Int) : Bool := decide (0 ≤ x) && decide (x < 2 ^ m.toNat)
def allB (m : Int) (L : List Int) : Bool := (modI m != 0) && L.all (elB m)
end Go.GF
namespace Go.Proofs.YteikbikopgabjaaGreatDoor
open Go.RowKit Go.GF
def TabF (w : World) : Prop := w.cell? ⟨3, 0, none⟩ = some (.int .i64 8) ∧ w.cell? ⟨3, 1, none⟩ = some (.int .i64 285) ∧ w.cell? ⟨3, 2, none⟩ = some (.int .i64 16) ∧ w.cell? ⟨3, 3, none⟩ = some (.int .i64 69643)
theorem TabF.pos {w : World} (h : TabF w) : 3 < w.heap.size := by
 have := h.1
 unfold World.cell? at this
 rcases Nat.lt_or_ge 3 w.heap.size with h | h
 ·exact h
 ·rw [Array.getElem?_eq_none (by simp only; omega)] at this; cases this
theorem TabF.below {w w' : World} (h : TabF w) (hb : Below w.heap.size w w') : TabF w' := by
 have hp := h.pos
 obtain ⟨h1, h2, h3, h4⟩ := h
 exact ⟨(hb.cell (p := ⟨3, 0, none⟩) hp).trans h1, (hb.cell (p := ⟨3, 1, none⟩) hp).trans h2, (hb.cell (p := ⟨3, 2, none⟩) hp).trans h3, (hb.cell (p := ⟨3, 3, none⟩) hp).trans h4⟩
set_option maxRecDepth 40000 in
theorem fix0 (w : World) : (Instr.index 241 (.agg #[.int .i64 8, .int .i64 285, .int .i64 16, .int .i64 69643]) (.int .i64 0)).run Tryz.prog w = .ok (.agg #[.int .i64 8, .int .i64 285]) w := by
 have h1 : Tryz.prog.underlying 241 = some (.array 2 240) := rfl
 simp [Instr.index, run_underlying h1, asIntOf, go_sem]
set_option maxRecDepth 40000 in
theorem fix1 (w : World) : (Instr.index 241 (.agg #[.int .i64 8, .int .i64 285, .int .i64 16, .int .i64 69643]) (.int .i64 1)).run Tryz.prog w = .ok (.agg #[.int .i64 16, .int .i64 69643]) w := by
 have h1 : Tryz.prog.underlying 241 = some (.array 2 240) := rfl
 simp [Instr.index, run_underlying h1, asIntOf, go_sem]
attribute [local go_sem high] fix0 fix1
structure MdSt (w : World) (m : Int) (i : Value) (wr : World) : Prop where
 st : ∃ k : Nat, k ≤ 2 ∧ i = .int .i64 (k : Int) ∧ (1 ≤ k → m ≠ 8) ∧ (2 ≤ k → m ≠ 16) ∧ Below w.heap.size w wr
set_option maxRecDepth 20000 in
set_option maxHeartbeats 1000000 in
theorem modulus_any (m : Int) (w : World) (hT : TabF w) : Calls Tryz.prog 138 #[.int .i64 m] w fun e w' => e = .returned (.int .i64 (modI m)) ∧ Below w.heap.size w w' := by
 obtain ⟨t0, t1, t2, t3⟩ := hT
 go_enter Tryz.func138, Tryz.ntmps138
 go_wp2
 go_loopw [6] (fun i wr => MdSt w m i wr) (fun i _ => 2 - (intOf i).toNat)
 case atStart => exact ⟨⟨0, by omega, rfl, by omega, by omega, Below.refl _ _⟩⟩
 case round =>
  obtain ⟨k, hk, hi, h1, h2, hb⟩ := hrel.st
  clear hrel t0 t1 t2 t3
  have HB := Lib.hid hb
  match k, hk with
  | 0, _ =>
   have hi' : u6 = .int .i64 0 := hi
   clear hi
   subst hi'
   clear h1 h2 hb
   by_cases hm : m = 8
   ·subst hm
    go_wp2
    go_ret
    exact ⟨rfl, HB.out.alloc HB.out.size _⟩
   ·have hmd : ((8 : Int) == m) = false := by simp; omega
    have HM := Lib.hid hm
    clear hm
    go_wp2
    go_roundw
    case rel => exact ⟨⟨1, by omega, rfl, fun _ => HM.out, by omega, HB.out.alloc HB.out.size _⟩⟩
    case measure => simp only [intOf]; omega
  | 1, _ =>
   have hi' : u6 = .int .i64 1 := hi
   clear hi
   subst hi'
   have HM := Lib.hid (h1 (by omega))
   clear h1 h2 hb
   by_cases hm : m = 16
   ·subst hm
    go_wp2
    go_ret
    exact ⟨rfl, HB.out.alloc HB.out.size _⟩
   ·have hmd : ((16 : Int) == m) = false := by simp; omega
    have HM2 := Lib.hid hm
    clear hm
    go_wp2
    go_roundw
    case rel => exact ⟨⟨2, by omega, rfl, fun _ => HM.out, fun _ => HM2.out, HB.out.alloc HB.out.size _⟩⟩
    case measure => simp only [intOf]; omega
  | 2, _ =>
   have hi' : u6 = .int .i64 2 := hi
   clear hi
   subst hi'
   have HM := Lib.hid (show modI m = 0 by unfold modI; rw [if_neg (h1 (by omega)), if_neg (h2 (by omega))])
   clear h1 h2 hb
   go_wp2
   go_ret
   exact ⟨by rw [HM.out]; rfl, HB.out⟩
structure IxStJ (w : World) (L : List Int) (p : Int → Bool) (i : Value) (wr : World) : Prop where
 st : ∃ k : Nat, k ≤ L.length ∧ i = .int .i64 (k : Int) ∧ (L.take k).any p = false ∧ Below w.heap.size w wr
set_option maxRecDepth 20000 in
set_option maxHeartbeats 2000000 in
theorem ixf_any (v : Value) (L : List Int) (f : FuncId) (cap : Array Value) (p : Int → Bool) (w : World) (hcf : ∀ args w, (callFunc f args).run Tryz.prog w = .ok (.enter f args) w) (hv : RowI w v (intsV L))
  (hp : ∀ x ∈ L, ∀ W, Below w.heap.size w W → Calls Tryz.prog f (#[.int .i64 x] ++ cap) W fun e W' => e = .returned (.bool (p x)) ∧ Below W.heap.size W W') :
  Calls Tryz.prog 67 #[v, .func (.func f) #[] cap] w fun e w' => (∃ k : Int, e = .returned (.int .i64 k) ∧ (decide (0 ≤ k)) = L.any p) ∧ Below w.heap.size w w' := by
 obtain ⟨ao, cp, rfl, hlc, hcm, hrow⟩ := hv
 rw [intsV_len] at *
 unfold maxLen at hcm
 have hl63 : L.length ≤ 9223372036854775807 := by omega
 have HR := Lib.hid hrow
 have HP := Lib.hid hp
 clear hrow hp hlc hcm
 go_enter Tryz.func67, Tryz.ntmps67
 go_wp2
 go_loopw [8] (fun i wr => IxStJ w L p i wr) (fun i _ => L.length - (intOf i).toNat)
 case atStart => exact ⟨⟨0, Nat.zero_le _, rfl, rfl, Below.refl _ _⟩⟩
 case round =>
  obtain ⟨k, hk, rfl, ha, hb⟩ := hrel.st
  clear hrel
  have HB := Lib.hid hb
  by_cases hlt : k < L.length
  ·have hltd : decide ((k : Int) < (L.length : Int)) = true := decide_eq_true (by omega)
   have hki : (k : Int) ≤ 9223372036854775806 := by omega
   obtain ⟨x, hx⟩ : ∃ x, L[k]? = some x := ⟨_, List.getElem?_eq_getElem hlt⟩
   obtain ⟨b, off, rfl, hbl, hc⟩ := HR.out (by omega)
   have e0 := (hb.cell (p := ⟨b, off + k, none⟩) hbl).trans (hc k _ (intsV_at hx))
   have HC := Lib.hid (HP.out x (List.mem_of_getElem? hx) wr hb)
   have HT := Lib.hid (show (L.take (k + 1)).any p = p x by rw [List.take_add_one, hx, List.any_append, ha]; simp)
   have HA := Lib.hid (fun h : p x = true => show L.any p = true from List.any_eq_true.2 ⟨x, List.mem_of_getElem? hx, h⟩)
   clear ha hb hx hbl hc HP HR
   cases hpx : p x with
   | true =>
    rw [hpx] at HC HT
    go_wp2_with (refine HC.out.mono ?_; rintro e w1 ⟨rfl, h1⟩)
    go_ret
    exact ⟨⟨(k : Int), rfl, by rw [HA.out hpx]; exact decide_eq_true (by omega)⟩, HB.out.trans (h1.mono HB.out.size)⟩
   | false =>
    rw [hpx] at HC HT
    go_wp2_with (refine HC.out.mono ?_; rintro e w1 ⟨rfl, h1⟩)
    go_roundw
    case rel => exact ⟨⟨k + 1, by omega, rfl, HT.out, HB.out.trans (h1.mono HB.out.size)⟩⟩
    case measure => simp only [intOf]; omega
  ·have hke : k = L.length := by omega
   have hltd : decide ((k : Int) < (L.length : Int)) = false := decide_eq_false (by omega)
   have HF := Lib.hid (show L.any p = false by rw [hke, List.take_length] at ha; exact ha)
   clear ha hb hke HP HR
   go_wp2
   go_ret
   exact ⟨⟨-1, rfl, by rw [HF.out]; rfl⟩, HB.out⟩
end Go.Proofs.YteikbikopgabjaaGreatDoor
namespace Go.GF
open Go Go.RowKit
def shlN (a s : Nat) : Nat := a <<< s
def shrN (a s : Nat) : Nat := a >>> s
def xorN (a b : Nat) : Nat := a ^^^ b
def andN (a : Nat) : Nat := a % 2
def nzN (a : Nat) : Bool := decide (a ≠ 0)
theorem wrap_nat {n : Nat} (h : n < 4611686018427387904) : IntKind.i64.wrap (n : Int) = (n : Int) := IntWalk.i64_in _ (by omega)
theorem b_shl (t : TypeId) (yk : IntKind) (a s : Nat) (h : shlN a s < 4611686018427387904) (hs : s ≤ 62) : binOp .shl t (.int .i64 (a : Int)) (.int yk (s : Int)) = pure (.int .i64 ((shlN a s : Nat) : Int)) := by
 rw [binOp_shl, shift_shl_any _ _ _ _ (by omega), show min (s : Int).toNat IntKind.i64.bits = s by show min (s : Int).toNat 64 = s; omega]
 rw [show ((a : Int) * 2 ^ s) = ((shlN a s : Nat) : Int) by unfold shlN; rw [Nat.shiftLeft_eq]; simp, wrap_nat h]
theorem b_shl1 (t : TypeId) (yk : IntKind) (a : Nat) (h : shlN a 1 < 4611686018427387904) : binOp .shl t (.int .i64 (a : Int)) (.int yk 1) = pure (.int .i64 ((shlN a 1 : Nat) : Int)) := b_shl t yk a 1 h (by omega)
theorem b_shr (t : TypeId) (yk : IntKind) (a s : Nat) (hs : s ≤ 62) : binOp .shr t (.int .i64 (a : Int)) (.int yk (s : Int)) = pure (.int .i64 ((shrN a s : Nat) : Int)) := by
 rw [binOp_shr, shift_shr_any _ _ _ _ (by omega), show min (s : Int).toNat IntKind.i64.bits = s by show min (s : Int).toNat 64 = s; omega]
 rw [show ((a : Int) / 2 ^ s) = ((shrN a s : Nat) : Int) by unfold shrN; rw [Nat.shiftRight_eq_div_pow]; simp]
theorem b_shr1 (t : TypeId) (yk : IntKind) (a : Nat) : binOp .shr t (.int .i64 (a : Int)) (.int yk 1) = pure (.int .i64 ((shrN a 1 : Nat) : Int)) := b_shr t yk a 1 (by omega)
theorem b_xor (t : TypeId) (a b : Nat) (ha : a < 4611686018427387904) (hb : b < 4611686018427387904) : binOp .xor t (.int .i64 (a : Int)) (.int .i64 (b : Int)) = pure (.int .i64 ((xorN a b : Nat) : Int)) := by
 rw [binOp_xor]
 show (pure (Value.int .i64 (bits .xor .i64 (a : Int) (b : Int))) : Sem Value) = _
 rw [i64_xor_nat' a b ha hb]; rfl
theorem b_and1 (t : TypeId) (a : Nat) (ha : a < 4611686018427387904) : binOp .and t (.int .i64 (a : Int)) (.int .i64 1) = pure (.int .i64 ((andN a : Nat) : Int)) := by
 rw [binOp_and]
 show (pure (Value.int .i64 (bits .and .i64 (a : Int) 1)) : Sem Value) = _
 rw [i64_and1 a ha]; rfl
theorem b_nz (t : TypeId) (a : Nat) : binOp .neq t (.int .i64 (a : Int)) (.int .i64 0) = pure (.bool (nzN a)) := by
 rw [binOp_neq]
 unfold nzN
 congr 2
 by_cases h : a = 0
 ·subst h; rfl
 ·rw [decide_eq_true h]; simpa using h
theorem len_half {a : Nat} (h : a ≠ 0) : len (a / 2) + 1 = len a := by
 obtain ⟨k, hk, h1, h2⟩ := len_bound h
 rw [hk]
 cases k with
 | zero =>
  have : a = 1 := by simp at h1 h2; omega
  subst this; rfl
 | succ k =>
  rw [Nat.pow_succ] at h1 h2
  have := len_eq (n := a / 2) (k := k) (by omega) (by omega)
  omega
theorem shr_step (b k : Nat) : b >>> (k + 1) = (b >>> k) / 2 := Nat.shiftRight_succ b k
theorem modP_lt {m : Nat} (hm : isF m) : modP m < 131072 := by rcases hm with rfl | rfl <;> decide
theorem modI_nat {m : Nat} (hm : isF m) : modI (m : Int) = ((modP m : Nat) : Int) := by rcases hm with rfl | rfl <;> rfl
theorem lt62 {a k : Nat} (h : a < 2 ^ k) (hk : k ≤ 62) : a < 4611686018427387904 := Nat.lt_of_lt_of_le h (Nat.pow_le_pow_right (n := 2) (by omega) hk)
theorem shl_lt {a k s : Nat} (h : a < 2 ^ k) : shlN a s < 2 ^ (k + s) := by
 unfold shlN; rw [Nat.shiftLeft_eq, Nat.pow_add]; exact Nat.mul_lt_mul_of_pos_right h (Nat.pow_pos (by omega))
end Go.GF
namespace Go.Proofs.YteikbikopgabjaaGreatDoor
open Go.RowKit Go.GF
attribute [local go_sem high] b_shl b_shl1 b_shr b_shr1 b_xor b_and1 b_nz
structure PrSt (w : World) (m a b : Nat) (o i : Value) (wr : World) : Prop where
 st : ∃ n : Nat, n ≤ m ∧ o = .int .i64 ((evN (xt m (modP m)) a n (b >>> (m - n)) : Nat) : Int) ∧ ((∃ ii : Nat, ii + 1 + n = m ∧ i = .int .i64 (ii : Int)) ∨ (n = m ∧ i = .int .i64 (-1))) ∧ Below w.heap.size w wr
set_option maxRecDepth 20000 in
set_option maxHeartbeats 2000000 in
theorem product_any (m : Nat) (hm : isF m) (a b : Nat) (ha : a < 2 ^ m) (hb : b < 2 ^ m) (w : World) (hT : TabF w) :
    Calls Tryz.prog 159 #[.int .i64 (m : Int), .int .i64 (a : Int), .int .i64 (b : Int)] w fun e w' => e = .returned (.int .i64 ((mulC m a b : Nat) : Int)) ∧ Below w.heap.size w w' := by
  have HMD := Lib.hid (modulus_any (m : Int) w hT)
  rw [modI_nat hm] at HMD
  have hF := fld hm
  have hPl := modP_lt hm
  have hm16 : m ≤ 16 := by rcases hm with rfl | rfl <;> omega
  have hm1 : 1 ≤ m := by rcases hm with rfl | rfl <;> omega
  have ho : ∀ n p, evN (xt m (modP m)) a n p < 2 ^ m := by
    intro n
    induction n with
    | zero => intro p; exact Nat.pow_pos (by omega)
    | succ n ih =>
      intro p
      unfold evN
      refine Nat.xor_lt_two_pow (xt_lt hF (ih _)) ?_
      unfold bitM; split
      · exact ha
      · exact Nat.pow_pos (by omega)
  have HO := Lib.hid ho
  have hmm : ((m : Int) - 1) = ((m - 1 : Nat) : Int) := by omega
  have HX := Lib.hid (And.intro hF (And.intro ha hb))
  have HMC := Lib.hid (show evN (xt m (modP m)) a m (b >>> (m - m)) = mulC m a b by rw [Nat.sub_self]; rfl)
  obtain ⟨P, hP⟩ : ∃ P, modP m = P := ⟨_, rfl⟩
  rw [hP] at HX HO hPl HMD
  have HP := Lib.hid hP
  have hP62 : P < 4611686018427387904 := by omega
  have ha62 := lt62 ha (by omega)
  have hb62 := lt62 hb (by omega)
  have hm62 : m ≤ 62 := by omega
  clear ho hF hT ha hb hP
  go_enter Tryz.func159, Tryz.ntmps159
  go_wp2_with (go_at_call 138; refine HMD.out.mono ?_; rintro e w1 ⟨rfl, h1⟩)
  have HB1 := Lib.hid h1
  clear h1 HMD
  go_loopw [8, 9] (fun o i wr => PrSt w m a b o i wr) (fun _ i _ => (intOf i + 1).toNat)
  case atStart => exact ⟨⟨0, Nat.zero_le _, rfl, .inl ⟨m - 1, by omega, rfl⟩, HB1.out⟩⟩
  case round =>
    clear HB1
    obtain ⟨n, hn, rfl, hi, hbw⟩ := hrel.st
    clear hrel
    have HB := Lib.hid hbw
    clear hbw
    rcases hi with ⟨ii, hii, rfl⟩ | ⟨hnm, rfl⟩
    · have hlo := HO.out n (b >>> (m - n))
      have hid : decide ((0 : Int) ≤ (ii : Int)) = true := decide_eq_true (by omega)
      have hii62 : ii ≤ 62 := by omega
      have hwr : IntKind.i64.wrap ((ii : Int) - 1) = (ii : Int) - 1 := IntWalk.i64_in _ (by omega)
      have hstep : evN (xt m P) a (n + 1) (b >>> ii) = xt m P (evN (xt m P) a n (b >>> (m - n))) ^^^ bitM (b >>> ii) a := by
        show xt m P (evN (xt m P) a n ((b >>> ii) / 2)) ^^^ bitM (b >>> ii) a = _
        rw [← shr_step, show ii + 1 = m - n by omega]
      rw [HP.out]
      generalize evN (xt m P) a n (b >>> (m - n)) = o at *
      have hx := xt_if (P := P) hlo
      have h2o : shlN o 1 = 2 * o := by unfold shlN; rw [Nat.shiftLeft_eq]; omega
      have ho1 : shlN o 1 < 2 ^ (m + 1) := shl_lt hlo
      have ho62 := lt62 ho1 (by omega)
      have hx62 : xorN (shlN o 1) P < 4611686018427387904 := lt62 (k := 62) (Nat.xor_lt_two_pow (Nat.lt_of_lt_of_le ho62 (by decide)) (Nat.lt_of_lt_of_le hP62 (by decide))) (by omega)
      have hsb : shrN b ii < 4611686018427387904 := by have : shrN b ii ≤ b := by unfold shrN; rw [Nat.shiftRight_eq_div_pow]; exact Nat.div_le_self _ _
                                                       omega
      have hq1 : (2 ^ m ≤ 2 * o) ↔ nzN (shrN (shlN o 1) m) = true := by
        unfold nzN shrN
        rw [h2o, Nat.shiftRight_eq_div_pow, decide_eq_true_iff, Nat.ne_zero_iff_zero_lt, Nat.div_pos_iff]
        have : 0 < 2 ^ m := Nat.pow_pos (by omega)
        omega
      have hq2 : ((b >>> ii) % 2 = 1) ↔ nzN (andN (shrN b ii)) = true := by
        unfold nzN shrN andN
        rw [decide_eq_true_iff]; omega
      have hb2 : bitM (b >>> ii) a = if nzN (andN (shrN b ii)) = true then a else 0 := by unfold bitM; simp only [hq2]
      have hx2 : xt m P o = if nzN (shrN (shlN o 1) m) = true then xorN (shlN o 1) P else shlN o 1 := by
        rw [hx]; simp only [hq1]; rw [← h2o]; rfl
      rw [hb2, hx2] at hstep
      have HS := Lib.hid hstep
      have HI := Lib.hid (And.intro hii hn)
      clear hstep hx hb2 hx2 hq1 hq2 h2o ho1 hlo hii hn hm1 hmm
      cases z1 : nzN (shrN (shlN o 1) m) with
      | false =>
        cases z2 : nzN (andN (shrN b ii)) with
        | false =>
          rw [z1, z2] at HS
          go_wp2
          go_roundw
          case rel =>
            obtain ⟨hii, hn⟩ := HI.out
            refine ⟨⟨n + 1, by omega, ?_, ?_, HB.out⟩⟩
            · rw [HP.out, show m - (n + 1) = ii by omega, HS.out]; simp
            · rcases Nat.eq_zero_or_pos ii with h | h
              · subst h; exact .inr ⟨by omega, rfl⟩
              · refine .inl ⟨ii - 1, by omega, ?_⟩
                congr 1; omega
          case measure => simp only [intOf]; omega
        | true =>
          rw [z1, z2] at HS
          go_wp2
          go_roundw
          case rel =>
            obtain ⟨hii, hn⟩ := HI.out
            refine ⟨⟨n + 1, by omega, ?_, ?_, HB.out⟩⟩
            · rw [HP.out, show m - (n + 1) = ii by omega, HS.out]; rfl
            · rcases Nat.eq_zero_or_pos ii with h | h
              · subst h; exact .inr ⟨by omega, rfl⟩
              · refine .inl ⟨ii - 1, by omega, ?_⟩
                congr 1; omega
          case measure => simp only [intOf]; omega
      | true =>
        cases z2 : nzN (andN (shrN b ii)) with
        | false =>
          rw [z1, z2] at HS
          go_wp2
          go_roundw
          case rel =>
            obtain ⟨hii, hn⟩ := HI.out
            refine ⟨⟨n + 1, by omega, ?_, ?_, HB.out⟩⟩
            · rw [HP.out, show m - (n + 1) = ii by omega, HS.out]; simp
            · rcases Nat.eq_zero_or_pos ii with h | h
              · subst h; exact .inr ⟨by omega, rfl⟩
              · refine .inl ⟨ii - 1, by omega, ?_⟩
                congr 1; omega
          case measure => simp only [intOf]; omega
        | true =>
          rw [z1, z2] at HS
          go_wp2
          go_roundw
          case rel =>
            obtain ⟨hii, hn⟩ := HI.out
            refine ⟨⟨n + 1, by omega, ?_, ?_, HB.out⟩⟩
            · rw [HP.out, show m - (n + 1) = ii by omega, HS.out]; rfl
            · rcases Nat.eq_zero_or_pos ii with h | h
              · subst h; exact .inr ⟨by omega, rfl⟩
              · refine .inl ⟨ii - 1, by omega, ?_⟩
                congr 1; omega
          case measure => simp only [intOf]; omega
    · subst hnm
      go_wp2
      go_ret
      exact ⟨by rw [HMC.out]; rfl, HB.out⟩
end Go.Proofs.YteikbikopgabjaaGreatDoor
namespace Go.GF
open Go Go.RowKit
def degI (a : Nat) : Int := (len a : Int) - 1
def n1N (a : Nat) : Bool := decide (a ≠ 1)
theorem b_n1 (t : TypeId) (a : Nat) : binOp .neq t (.int .i64 (a : Int)) (.int .i64 1) = pure (.bool (n1N a)) := by
 rw [binOp_neq]
 unfold n1N
 congr 2
 by_cases h : a = 1
 ·subst h; rfl
 ·rw [decide_eq_true h]
  have : (a : Int) ≠ 1 := by omega
  simpa using this
theorem nz_true {a : Nat} (h : a ≠ 0) : nzN a = true := decide_eq_true h
end Go.GF
namespace Go.Proofs.YteikbikopgabjaaGreatDoor
open Go.RowKit Go.GF
attribute [local go_sem high] b_shl b_shl1 b_shr b_shr1 b_xor b_and1 b_nz b_n1
structure DgSt (w : World) (a : Nat) (x d : Value) (wr : World) : Prop where
 st : ∃ (k : Nat) (e : Int), k < 4611686018427387904 ∧ -1 ≤ e ∧ e + len k = degI a ∧ x = .int .i64 (k : Int) ∧ d = .int .i64 e ∧ w = wr
set_option maxRecDepth 20000 in
set_option maxHeartbeats 1000000 in
theorem degree_any (a : Nat) (ha : a < 4611686018427387904) (w : World) :
  Calls Tryz.prog 157 #[.int .i64 (a : Int)] w fun e w' => e = .returned (.int .i64 (degI a)) ∧ w = w' := by
 have hda : degI a ≤ 62 := by
  unfold degI
  have := (len_le (n := a) (k := 62)).2 (Nat.lt_of_lt_of_le ha (by decide))
  omega
 go_enter Tryz.func157, Tryz.ntmps157
 go_wp2
 go_loopw [0, 3] (fun x d wr => DgSt w a x d wr) (fun x _ _ => len (intOf x).toNat)
 case atStart => exact ⟨⟨a, -1, ha, by omega, by unfold degI; omega, rfl, rfl, rfl⟩⟩
 case round =>
  obtain ⟨k, e, hk, he, hs, rfl, rfl, rfl⟩ := hrel.st
  clear hrel
  by_cases hz : k = 0
  ·have hn : nzN k = false := by rw [hz]; rfl
   have HS := Lib.hid (show e = degI a by rw [hz, len_zero] at hs; omega)
   clear hs hz hda he
   go_wp2
   go_ret
   exact ⟨by rw [HS.out]; rfl, rfl⟩
  ·have hn := nz_true hz
   have hl := len_half hz
   have hw : IntKind.i64.wrap (e + 1) = e + 1 := IntWalk.i64_in _ (by omega)
   have hsh : shrN k 1 = k / 2 := by unfold shrN; rw [Nat.shiftRight_eq_div_pow]
   have HF := Lib.hid (show shrN k 1 < 4611686018427387904 ∧ -1 ≤ e + 1 ∧ (e + 1) + len (shrN k 1) = degI a by rw [hsh]; omega)
   have HM := Lib.hid (show len (shrN k 1) < len k by rw [hsh]; omega)
   clear hs hl hz hsh hda he
   go_wp2
   go_roundw
   case rel => exact ⟨⟨shrN k 1, e + 1, HF.out.1, HF.out.2.1, HF.out.2.2, rfl, rfl, rfl⟩⟩
   case measure =>
    simp only [intOf, Int.toNat_natCast]
    exact HM.out
structure RdSt (w : World) (m a : Nat) (x d : Value) (wr : World) : Prop where
 st : ∃ k : Nat, k < 2 ^ (m + 2) ∧ red m (modP m) k = red m (modP m) a ∧ x = .int .i64 (k : Int) ∧ d = .int .i64 (degI k) ∧ Below w.heap.size w wr
set_option maxRecDepth 20000 in
set_option maxHeartbeats 2000000 in
theorem reduce_any (m : Nat) (hm : isF m) (a : Nat) (ha : a < 2 ^ (m + 2)) (w : World) (hT : TabF w) :
  Calls Tryz.prog 158 #[.int .i64 (m : Int), .int .i64 (a : Int)] w fun e w' => e = .returned (.int .i64 ((redC m a : Nat) : Int)) ∧ Below w.heap.size w w' := by
 have HMD := Lib.hid (fun W (hb : Below w.heap.size w W) => modulus_any (m : Int) W (hT.below hb))
 rw [modI_nat hm] at HMD
 have hF := fld hm
 have hPl := modP_lt hm
 have hm16 : m ≤ 16 := by rcases hm with rfl | rfl <;> omega
 have HA := Lib.hid ha
 have ha62 := lt62 ha (by omega)
 have HRC := Lib.hid (redC_eq ha)
 clear ha hT
 go_enter Tryz.func158, Tryz.ntmps158
 go_wp2_with (go_at_call 157; refine (degree_any a ha62 w).mono ?_; rintro e w1 ⟨rfl, rfl⟩)
 go_loopw [1, 5] (fun x d wr => RdSt w m a x d wr) (fun x _ _ => len (intOf x).toNat)
 case atStart => exact ⟨⟨a, HA.out, rfl, rfl, rfl, Below.refl _ _⟩⟩
 case round =>
  obtain ⟨k, hk, hr, rfl, rfl, hb⟩ := hrel.st
  clear hrel
  have HB := Lib.hid hb
  by_cases hge : m < len k
  ·have hgd : decide ((m : Int) ≤ degI k) = true := decide_eq_true (by unfold degI; omega)
   have hlk : len k ≤ m + 2 := len_le.2 hk
   have hw : IntKind.i64.wrap (degI k - (m : Int)) = ((len k - 1 - m : Nat) : Int) := by
    rw [show degI k - (m : Int) = ((len k - 1 - m : Nat) : Int) by unfold degI; omega]; exact wrap_nat (by omega)
   obtain ⟨h1, h2⟩ := red_step hF hge
   have HM := Lib.hid (HMD.out wr hb)
   have hs62 : len k - 1 - m ≤ 62 := by omega
   have hk62 := lt62 hk (by omega)
   generalize hs : len k - 1 - m = s at *
   have hsh := shl_lt (s := s) (Nat.lt_of_lt_of_le hPl (show 131072 ≤ 2 ^ 17 by decide))
   have hsh62 := lt62 hsh (by omega)
   have HK := Lib.hid (And.intro (show xorN k (shlN (modP m) s) < 2 ^ (m + 2) from len_le.1 (Nat.le_trans (Nat.le_of_lt h2) hlk)) (And.intro (h1.trans hr) h2))
   have hx62 : xorN k (shlN (modP m) s) < 4611686018427387904 := lt62 HK.out.1 (by omega)
   have HD := Lib.hid (fun W => degree_any (xorN k (shlN (modP m) s)) hx62 W)
   clear h1 h2 hr hk hb hsh hs hlk hge
   generalize hP : modP m = P at *
   have HP := Lib.hid hP
   clear hP hF
   go_wp2_with first
    | (go_at_call 138; refine HM.out.mono ?_; rintro e w1 ⟨rfl, h1⟩)
    | (go_at_call 157; refine (HD.out _).mono ?_; rintro e w2 ⟨rfl, rfl⟩)
   go_roundw
   case rel => exact ⟨⟨xorN k (shlN P s), HK.out.1, by rw [HP.out]; exact HK.out.2.1, rfl, rfl, HB.out.trans (h1.mono HB.out.size)⟩⟩
   case measure => simp only [intOf, Int.toNat_natCast]; exact HK.out.2.2
  ·have hgd : decide ((m : Int) ≤ degI k) = false := decide_eq_false (by unfold degI; omega)
   have HK := Lib.hid (show k = redC m a by rw [HRC.out, ← hr]; exact (red_small (len_le.1 (by omega))).symm)
   clear hk hr hb hge
   go_wp2
   go_ret
   exact ⟨by rw [HK.out]; rfl, HB.out⟩
structure IvSt (w : World) (m a : Nat) (u v x y : Value) (wr : World) : Prop where
 st : ∃ U V X Y : Nat, EucI m (modP m) a U V X Y ∧ u = .int .i64 (U : Int) ∧ v = .int .i64 (V : Int) ∧ x = .int .i64 (X : Int) ∧ y = .int .i64 (Y : Int) ∧ Below w.heap.size w wr
set_option maxRecDepth 20000 in
set_option maxHeartbeats 4000000 in
theorem inverse_any (m : Nat) (hm : isF m) (a : Nat) (ha : a < 2 ^ m) (h0 : a ≠ 0) (w : World) (hT : TabF w) :
  Calls Tryz.prog 146 #[.int .i64 (m : Int), .int .i64 (a : Int)] w fun e w' => e = .returned (.int .i64 ((invC m a : Nat) : Int)) ∧ Below w.heap.size w w' := by
 have HMD := Lib.hid (modulus_any (m : Int) w hT)
 rw [modI_nat hm] at HMD
 have HRD := Lib.hid (fun x (hx : x < 2 ^ (m + 2)) W (hb : Below w.heap.size w W) => reduce_any m hm x hx W (hT.below hb))
 have hm16 : m ≤ 16 := by rcases hm with rfl | rfl <;> omega
 have HE := Lib.hid (And.intro (fld hm) (And.intro ha (And.intro h0 hm)))
 clear ha h0 hT hm
 go_enter Tryz.func146, Tryz.ntmps146
 go_wp2_with (go_at_call 138; refine HMD.out.mono ?_; rintro e w1 ⟨rfl, h1⟩)
 have HB1 := Lib.hid h1
 clear h1 HMD
 go_loopw [5, 6, 7, 8, 9] (fun u v x y _ wr => IvSt w m a u v x y wr) (fun u v _ _ _ _ => eucM (intOf u).toNat (intOf v).toNat)
 case atStart => exact ⟨⟨a, modP m, 1, 0, EucI.start HE.out.1 HE.out.2.2.1 HE.out.2.1, rfl, rfl, rfl, rfl, HB1.out⟩⟩
 case round =>
  clear HB1
  obtain ⟨U, V, X, Y, hI, rfl, rfl, rfl, rfl, hb⟩ := hrel.st
  clear hrel
  have HB := Lib.hid hb
  have hu62 := lt62 hI.ult (by omega)
  have hv62 := lt62 hI.swap.ult (by omega)
  have hx62 := lt62 hI.xlt (by omega)
  have hy62 := lt62 hI.swap.xlt (by omega)
  by_cases hu : U = 1
  ·have hn : n1N U = false := by rw [hu]; rfl
   have HR := Lib.hid (HRD.out X hI.xlt wr hb)
   have HK := Lib.hid (show redC m X = invC m a by
    subst hu
    obtain ⟨hF, ha, h0, hm⟩ := HE.out
    obtain ⟨i1, i2⟩ := invC_ok hm h0 ha
    rw [redC_eq hI.xlt]
    exact inv_unique hF ha (red_lt hF X) i1 (hI.done hF ha) i2)
   clear hI hb hu HRD
   go_wp2_with (go_at_call 158; refine HR.out.mono ?_; rintro e w1 ⟨rfl, h1⟩)
   go_ret
   exact ⟨by rw [HK.out]; rfl, HB.out.trans (h1.mono HB.out.size)⟩
  ·have hn : n1N U = true := decide_eq_true hu
   have hlu := hI.lu
   have hlv := hI.lv
   have hlx := hI.lx
   have hly := hI.ly
   by_cases hle : len V ≤ len U
   ·have hw : IntKind.i64.wrap (degI U - degI V) = ((len U - len V : Nat) : Int) := by
     rw [show degI U - degI V = ((len U - len V : Nat) : Int) by unfold degI; omega]; exact wrap_nat (by omega)
    obtain ⟨h1, h2⟩ := hI.step hu hle
    have hs62 : len U - len V ≤ 62 := by omega
    have hsu := lt62 (shl_lt (s := len U - len V) hI.swap.ult) (by omega)
    have hsx := lt62 (shl_lt (s := len U - len V) hI.swap.xlt) (by omega)
    generalize len U - len V = s at *
    have hneg : decide ((s : Int) < 0) = false := decide_eq_false (by omega)
    have HK := Lib.hid (And.intro h1 h2)
    clear h1 h2 hI hb hu hlu hlv hlx hly hle
    go_wp2_with first
     | (go_at_call 157; with_reducible refine (degree_any U hu62 _).mono ?_; rintro e w2 ⟨rfl, rfl⟩)
     | (go_at_call 157; with_reducible refine (degree_any V hv62 _).mono ?_; rintro e w2 ⟨rfl, rfl⟩)
    go_roundw
    case rel => exact ⟨⟨xorN U (shlN V s), V, xorN X (shlN Y s), Y, HK.out.1, rfl, rfl, rfl, rfl, HB.out⟩⟩
    case measure => simp only [intOf, Int.toNat_natCast]; exact HK.out.2
   ·have hw : IntKind.i64.wrap (degI U - degI V) = -((len V - len U : Nat) : Int) := by
     rw [show degI U - degI V = -((len V - len U : Nat) : Int) by unfold degI; omega]; exact IntWalk.i64_in _ (by omega)
    obtain ⟨h1, h2⟩ := hI.step' hu (by omega)
    have hs62 : len V - len U ≤ 62 := by omega
    have hsu := lt62 (shl_lt (s := len V - len U) hI.ult) (by omega)
    have hsx := lt62 (shl_lt (s := len V - len U) hI.xlt) (by omega)
    obtain ⟨s, hs⟩ : ∃ s, len V - len U = s := ⟨_, rfl⟩
    rw [hs] at hw h1 h2 hs62 hsu hsx
    have hpos : 0 < s := by omega
    have hnn : IntKind.i64.wrap (- -(s : Int)) = (s : Int) := by rw [Int.neg_neg]; exact wrap_nat (by omega)
    have HK := Lib.hid (And.intro h1 h2)
    clear h1 h2 hI hb hu hlu hlv hlx hly hle hs
    go_wp2_with first
     | (go_at_call 157; with_reducible refine (degree_any U hu62 _).mono ?_; rintro e w2 ⟨rfl, rfl⟩)
     | (go_at_call 157; with_reducible refine (degree_any V hv62 _).mono ?_; rintro e w2 ⟨rfl, rfl⟩)
    go_roundw
    case rel => exact ⟨⟨xorN V (shlN U s), U, xorN Y (shlN X s), X, HK.out.1, rfl, rfl, rfl, rfl, HB.out⟩⟩
    case measure => simp only [intOf, Int.toNat_natCast]; exact HK.out.2
end Go.Proofs.YteikbikopgabjaaGreatDoor
namespace Go.GF
open Go Go.RowKit
theorem modI_cases (m : Int) : (modI m = 0 ∧ m ≠ 8 ∧ m ≠ 16) ∨ (∃ k : Nat, isF k ∧ m = (k : Int) ∧ modI m ≠ 0) := by
 by_cases h8 : m = 8
 ·exact .inr ⟨8, .inl rfl, h8, by rw [h8]; decide⟩
 ·by_cases h16 : m = 16
  ·exact .inr ⟨16, .inr rfl, h16, by rw [h16]; decide⟩
  ·exact .inl ⟨by unfold modI; rw [if_neg h8, if_neg h16], h8, h16⟩
theorem elB_nat (m : Nat) (n : Nat) : elB (m : Int) (n : Int) = !nzN (shrN n m) := by
 unfold elB nzN shrN
 rw [Nat.shiftRight_eq_div_pow, decide_eq_true (show (0 : Int) ≤ (n : Int) by omega), Bool.true_and]
 have h2 : 0 < 2 ^ m := Nat.pow_pos (by omega)
 have h3 : ((n : Int) < 2 ^ (m : Int).toNat) ↔ n < 2 ^ m := by
  rw [Int.toNat_natCast]
  constructor
  ·intro h; exact_mod_cast h
  ·intro h; exact_mod_cast h
 by_cases h : n < 2 ^ m
 ·rw [decide_eq_true (h3.2 h), Nat.div_eq_of_lt h]; rfl
 ·rw [decide_eq_false (fun h' => h (h3.1 h'))]
  have : n / 2 ^ m ≠ 0 := by
   have := Nat.div_pos (Nat.le_of_not_lt h) h2
   omega
  simp [this]
theorem allB_nat {m : Nat} (hm : isF m) {L : List Nat} (h : ∀ x ∈ L, x < 2 ^ m) : allB (m : Int) (L.map fun x : Nat => (x : Int)) = true := by
 unfold allB
 rw [Bool.and_eq_true]
 constructor
 ·rcases hm with rfl | rfl <;> decide
 ·rw [List.all_eq_true]
  intro x hx
  obtain ⟨y, hy, rfl⟩ := List.mem_map.1 hx
  rw [elB_nat]
  unfold nzN shrN
  rw [Nat.shiftRight_eq_div_pow, Nat.div_eq_of_lt (h y hy)]; rfl
end Go.GF
namespace Go.Proofs.YteikbikopgabjaaGreatDoor
open Go.RowKit Go.GF
attribute [local go_sem high] b_shl b_shl1 b_shr b_shr1 b_xor b_and1 b_nz b_n1
set_option maxRecDepth 20000 in
theorem containsf_any (v : Value) (L : List Int) (f : FuncId) (cap : Array Value) (p : Int → Bool) (w : World) (hcf : ∀ args w, (callFunc f args).run Tryz.prog w = .ok (.enter f args) w) (hv : RowI w v (intsV L))
  (hp : ∀ x ∈ L, ∀ W, Below w.heap.size w W → Calls Tryz.prog f (#[.int .i64 x] ++ cap) W fun e W' => e = .returned (.bool (p x)) ∧ Below W.heap.size W W') :
  Calls Tryz.prog 41 #[v, .func (.func f) #[] cap] w fun e w' => e = .returned (.bool (L.any p)) ∧ Below w.heap.size w w' := by
 have H := Lib.hid (ixf_any v L f cap p w hcf hv hp)
 clear hv hp
 go_enter Tryz.func41, Tryz.ntmps41
 go_wp2_with (go_at_call 67; refine H.out.mono ?_; rintro e w1 ⟨⟨k, rfl, hk⟩, h1⟩)
 go_ret
 exact ⟨by rw [← hk]; rfl, h1⟩
set_option maxRecDepth 20000 in
theorem all1_any (m : Nat) (hm : isF m) (x : Int) (b : Nat) (w : World) (hc : w.cell? ⟨b, 0, none⟩ = some (.int .i64 (m : Int))) :
  Calls Tryz.prog 139 #[.int .i64 x, .pointer (some ⟨b, 0, none⟩)] w fun e w' => e = .returned (.bool (!elB (m : Int) x)) ∧ Below w.heap.size w w' := by
 have hm62 : m ≤ 62 := by rcases hm with rfl | rfl <;> omega
 by_cases hx : x < 0
 ·have hd : decide (x < 0) = true := decide_eq_true hx
  have hel : elB (m : Int) x = false := by unfold elB; rw [decide_eq_false (by omega), Bool.false_and]
  rw [hel]
  clear hx hel
  go_enter Tryz.func139, Tryz.ntmps139
  go_wp2
  go_ret
  exact ⟨rfl, Below.refl _ _⟩
 ·obtain ⟨n, rfl⟩ : ∃ n : Nat, x = (n : Int) := ⟨x.toNat, by omega⟩
  have hd : decide ((n : Int) < 0) = false := decide_eq_false hx
  rw [elB_nat]
  clear hx
  go_enter Tryz.func139, Tryz.ntmps139
  go_wp2
  go_ret
  exact ⟨by simp, Below.refl _ _⟩
theorem all1_run (args : Array Value) (w : World) : (callFunc 139 args).run Tryz.prog w = .ok (.enter 139 args) w := by kernel_rfl
theorem all_con (v : Value) (L : List Int) (k : Nat) (hk : isF k) (b : Nat) (w : World) (hv : RowI w v (intsV L)) (hc : ∀ W', Below w.heap.size w W' → W'.cell? ⟨b, 0, none⟩ = some (.int .i64 (k : Int))) :
  Calls Tryz.prog 41 #[v, .func (.func 139) #[] #[.pointer (some ⟨b, 0, none⟩)]] w fun e w' => e = .returned (.bool (L.any fun x => !elB (k : Int) x)) ∧ Below w.heap.size w w' := by
 refine containsf_any v L 139 #[.pointer (some ⟨b, 0, none⟩)] (fun x => !elB (k : Int) x) w all1_run hv ?_
 intro x _ W hb
 have h := all1_any k hk x b W (hc W hb)
 exact h
theorem all_box (w W : World) (k : Nat) (t : TypeId) (f : Nat × Nat) (h : Below (w.alloc (.cells #[.int .i64 (k : Int)] t f)).heap.size (w.alloc (.cells #[.int .i64 (k : Int)] t f)) W) :
  Below w.heap.size w W ∧ ∀ W', Below W.heap.size W W' → W'.cell? ⟨w.heap.size, 0, none⟩ = some (.int .i64 (k : Int)) := by
 have hs : w.heap.size < (w.alloc (.cells #[.int .i64 (k : Int)] t f)).heap.size := by simp
 have h0 : W.cell? ⟨w.heap.size, 0, none⟩ = some (.int .i64 (k : Int)) := by
  rw [h.cell (p := ⟨w.heap.size, 0, none⟩) hs]
  unfold World.cell?
  rw [show (w.alloc (.cells #[.int .i64 (k : Int)] t f)).heap[w.heap.size]? = _ from World.alloc_heap_new w _]; rfl
 exact ⟨((Below.refl _ w).alloc (Nat.le_refl _) _).trans (h.mono (Nat.le_of_lt hs)), fun W' h' => (h'.cell (p := ⟨w.heap.size, 0, none⟩) (Nat.lt_of_lt_of_le hs h.size)).trans h0⟩
set_option maxRecDepth 20000 in
set_option maxHeartbeats 1000000 in
theorem all_any (m : Int) (v : Value) (L : List Int) (w : World) (hv : RowI w v (intsV L)) (hT : TabF w) :
  Calls Tryz.prog 114 #[.int .i64 m, v] w fun e w' => e = .returned (.bool (allB m L)) ∧ Below w.heap.size w w' := by
 have HM := Lib.hid (fun W (hb : Below w.heap.size w W) => modulus_any m W (hT.below hb))
 have HV := Lib.hid (fun W (hb : Below w.heap.size w W) => hv.below hb)
 obtain ⟨ao, cp, rfl, -, -, -⟩ := hv
 rcases modI_cases m with ⟨h0, -, -⟩ | ⟨k, hk, rfl, hne⟩
 ·have ha : allB m L = false := by unfold allB; rw [h0]; rfl
  rw [ha]
  simp only [h0] at HM
  go_enter Tryz.func114, Tryz.ntmps114
  go_wp2_with (go_at_call 138; refine (HM.out _ ((Below.refl _ w).alloc (Nat.le_refl _) _)).mono ?_; rintro e w1 ⟨rfl, h1⟩)
  go_ret
  exact ⟨rfl, ((Below.refl _ w).alloc (Nat.le_refl _) _).trans (h1.mono (by simp))⟩
 ·have hne' : (modI (k : Int) != 0) = true := by simpa using hne
  have ha : allB (k : Int) L = !(L.any fun x => !elB (k : Int) x) := by
   unfold allB; rw [hne', Bool.true_and, List.all_eq_not_any_not]
  rw [ha]
  have HC := Lib.hid (fun (t : TypeId) (f : Nat × Nat) W (h : Below (w.alloc (.cells #[.int .i64 (k : Int)] t f)).heap.size (w.alloc (.cells #[.int .i64 (k : Int)] t f)) W) => all_box w W k t f h)
  have hk2 := Lib.hid hk
  clear hk hne hT
  go_enter Tryz.func114, Tryz.ntmps114
  go_wp2_with first
   | (go_at_call 138; refine (HM.out _ ((Below.refl _ w).alloc (Nat.le_refl _) _)).mono ?_; rintro e w1 ⟨rfl, h1⟩; obtain ⟨hb1, hc1⟩ := HC.out _ _ _ h1; clear h1)
   | (go_at_call 41; refine (all_con _ L k hk2.out _ w1 (HV.out w1 hb1) hc1).mono ?_; rintro e w2 ⟨rfl, h2⟩)
  go_ret
  exact ⟨rfl, hb1.trans (h2.mono hb1.size)⟩
end Go.Proofs.YteikbikopgabjaaGreatDoor
namespace Go.Proofs.YteikbikopgabjaaGreatDoor
open Go.RowKit Go.GF
theorem row_alloc2 (w : World) (t : TypeId) (a b : Int) : RowI (w.alloc (.cells #[.int .i64 a, .int .i64 b] t)) (.slice (some ⟨w.heap.size, 0, none⟩) 2 2) (intsV [a, b]) := RowI.alloc (c := [.int .i64 a, .int .i64 b]) (by unfold maxLen; simp)
theorem row_alloc1 (w : World) (t : TypeId) (a : Int) : RowI (w.alloc (.cells #[.int .i64 a] t)) (.slice (some ⟨w.heap.size, 0, none⟩) 1 1) (intsV [a]) := RowI.alloc (c := [.int .i64 a]) (by unfold maxLen; simp)
theorem al_below (w : World) (o : Obj) : Below w.heap.size w (w.alloc o) := (Below.refl _ w).alloc (Nat.le_refl _) o
theorem all1c (m a : Int) (w : World) (hT : TabF w) (t : TypeId) : Calls Tryz.prog 114 #[.int .i64 m, .slice (some ⟨w.heap.size, 0, none⟩) 1 1] (w.alloc (.cells #[.int .i64 a] t)) fun e w' => e = .returned (.bool (allB m [a])) ∧ Below w.heap.size w w' :=
 (all_any m _ [a] _ (row_alloc1 w t a) (hT.below (al_below w _))).mono fun _ _ ⟨h1, h2⟩ => ⟨h1, (al_below w _).trans (h2.mono (al_below w _).size)⟩
theorem all2c (m a b : Int) (w : World) (hT : TabF w) (t : TypeId) : Calls Tryz.prog 114 #[.int .i64 m, .slice (some ⟨w.heap.size, 0, none⟩) 2 2] (w.alloc (.cells #[.int .i64 a, .int .i64 b] t)) fun e w' => e = .returned (.bool (allB m [a, b])) ∧ Below w.heap.size w w' :=
 (all_any m _ [a, b] _ (row_alloc2 w t a b) (hT.below (al_below w _))).mono fun _ _ ⟨h1, h2⟩ => ⟨h1, (al_below w _).trans (h2.mono (al_below w _).size)⟩
set_option maxRecDepth 20000 in
theorem fvalid_any (m a : Int) (w : World) (hT : TabF w) : Calls Tryz.prog 89 #[.int .i64 m, .int .i64 a] w fun e w' => e = .returned (.bool (allB m [a])) ∧ Below w.heap.size w w' := by
 have H := Lib.hid (fun t => all1c m a w hT t)
 clear hT
 go_enter Tryz.func89, Tryz.ntmps89
 go_wp2_with (go_at_call 114; refine (H.out _).mono ?_; rintro e w1 ⟨rfl, h1⟩)
 go_ret
 exact ⟨rfl, h1⟩
set_option maxRecDepth 20000 in
theorem mul_any (m : Nat) (hm : isF m) (a b : Nat) (ha : a < 2 ^ m) (hb : b < 2 ^ m) (w : World) (hT : TabF w) :
  Calls Tryz.prog 147 #[.int .i64 (m : Int), .int .i64 (a : Int), .int .i64 (b : Int)] w fun e w' => e = .returned (.tuple #[.int .i64 ((mulC m a b : Nat) : Int), .int .i64 0]) ∧ Below w.heap.size w w' := by
 have H := Lib.hid (fun t => all2c m a b w hT t)
 have hal : allB (m : Int) [(a : Int), (b : Int)] = true := allB_nat hm (L := [a, b]) (by intro x hx; simp at hx; rcases hx with rfl | rfl <;> assumption)
 rw [hal] at H
 have HP := Lib.hid (fun W (h : Below w.heap.size w W) => product_any m hm a b ha hb W (hT.below h))
 clear hT hal ha hb hm
 go_enter Tryz.func147, Tryz.ntmps147
 go_wp2_with first
  | (go_at_call 114; refine (H.out _).mono ?_; rintro e w1 ⟨rfl, h1⟩)
  | (go_at_call 159; refine (HP.out w1 h1).mono ?_; rintro e w2 ⟨rfl, h2⟩)
 go_ret2
 exact ⟨rfl, h1.trans (h2.mono h1.size)⟩
set_option maxRecDepth 20000 in
theorem finv_any (m : Nat) (hm : isF m) (a : Nat) (ha : a < 2 ^ m) (h0 : a ≠ 0) (w : World) (hT : TabF w) :
  Calls Tryz.prog 121 #[.int .i64 (m : Int), .int .i64 (a : Int)] w fun e w' => e = .returned (.tuple #[.int .i64 ((invC m a : Nat) : Int), .int .i64 0]) ∧ Below w.heap.size w w' := by
 have H := Lib.hid (fun t => all1c m a w hT t)
 have hal : allB (m : Int) [(a : Int)] = true := allB_nat hm (L := [a]) (by intro x hx; simp at hx; rcases hx with rfl; assumption)
 rw [hal] at H
 have HP := Lib.hid (fun W (h : Below w.heap.size w W) => inverse_any m hm a ha h0 W (hT.below h))
 have hz : ((a : Int) == 0) = false := by simpa using h0
 clear hT hal ha hm h0
 go_enter Tryz.func121, Tryz.ntmps121
 go_wp2_with first
  | (go_at_call 114; refine (H.out _).mono ?_; rintro e w1 ⟨rfl, h1⟩)
  | (go_at_call 146; refine (HP.out w1 h1).mono ?_; rintro e w2 ⟨rfl, h2⟩)
 go_ret2
 exact ⟨rfl, h1.trans (h2.mono h1.size)⟩
set_option maxRecDepth 20000 in
theorem times_any (m : Nat) (hm : isF m) (a b : Nat) (ha : a < 2 ^ m) (hb : b < 2 ^ m) (w : World) (hT : TabF w) :
  Calls Tryz.prog 166 #[.int .i64 (m : Int), .int .i64 (a : Int), .int .i64 (b : Int)] w fun e w' => e = .returned (.int .i64 ((mulC m a b : Nat) : Int)) ∧ Below w.heap.size w w' := by
 have H := Lib.hid (mul_any m hm a b ha hb w hT)
 clear hT ha hb hm
 go_enter Tryz.func166, Tryz.ntmps166
 go_wp2_with (go_at_call 147; refine H.out.mono ?_; rintro e w1 ⟨rfl, h1⟩)
 go_ret
 exact ⟨rfl, h1⟩
end Go.Proofs.YteikbikopgabjaaGreatDoor
