/- package field: modulus, all, Valid, product, Mul, degree, reduce, inverse, Inv. -/
import Derived.WalkKit
import Derived.RangeFuncRecord
import Derived.Test.YtnilepaicnnbhaaDoorRows
import Derived.Laws.BitsAllLaws
import Derived.IntWalk
import Derived.Lib.Hide
import Derived.Deep.Cut
import Derived.Deep.QuietTactic
import Derived.BigQuiet
import Derived.WalkSmall
import Derived.Test.YtnilepaicnnbhaaDoorIe
import Derived.Test.YtnilepaicnnbhaaDoorRh
namespace Go.GF
open Go Go.RowKit

theorem i64_xor_nat' (a b : Nat) (ha : a < 4611686018427387904) (hb : b < 4611686018427387904) : bits .xor .i64 (a : Int) (b : Int) = ((a ^^^ b : Nat) : Int) := by
  have hx : a ^^^ b < 2 ^ 62 := Nat.xor_lt_two_pow (by omega) (by omega)
  have h1 : (BitVec.ofInt 64 (a : Int)).toNat = a := by
    rw [BitVec.ofInt_natCast, BitVec.toNat_ofNat]; exact Nat.mod_eq_of_lt (by omega)
  have h2 : (BitVec.ofInt 64 (b : Int)).toNat = b := by
    rw [BitVec.ofInt_natCast, BitVec.toNat_ofNat]; exact Nat.mod_eq_of_lt (by omega)
  show IntKind.i64.wrap ((BitVec.ofInt 64 (a : Int) ^^^ BitVec.ofInt 64 (b : Int)).toNat : Int) = _
  rw [BitVec.toNat_xor, h1, h2]
  exact IntWalk.i64_in _ (by omega)
theorem i64_and1 (a : Nat) (ha : a < 4611686018427387904) : bits .and .i64 (a : Int) 1 = ((a % 2 : Nat) : Int) := by
  have hx : a &&& 1 < 2 ^ 62 := Nat.and_lt_two_pow _ (by omega)
  have h1 : (BitVec.ofInt 64 (a : Int)).toNat = a := by
    rw [BitVec.ofInt_natCast, BitVec.toNat_ofNat]; exact Nat.mod_eq_of_lt (by omega)
  show IntKind.i64.wrap ((BitVec.ofInt 64 (a : Int) &&& BitVec.ofInt 64 (1 : Int)).toNat : Int) = _
  rw [BitVec.toNat_and, h1, show (BitVec.ofInt 64 (1 : Int)).toNat = 1 from rfl, ← Nat.and_one_is_mod]
  exact IntWalk.i64_in _ (by omega)

/-- A row of values that can be read, from a place on. -/
def RowI (w : World) (v : Value) (L : List Value) : Prop :=
  ∃ ao cap, v = .slice ao L.length cap ∧ L.length ≤ cap ∧ cap ≤ maxLen ∧ (0 < L.length → ∃ b off : Nat, ao = some ⟨b, off, none⟩ ∧ b < w.heap.size ∧ ∀ j u, L[j]? = some u → w.cell? ⟨b, off + j, none⟩ = some u)
theorem RowI.below {w w' : World} {v : Value} {L : List Value} (h : RowI w v L) (hb : Below w.heap.size w w') : RowI w' v L := by
  obtain ⟨ao, cap, h1, h2, h3, h4⟩ := h
  refine ⟨ao, cap, h1, h2, h3, fun hn => ?_⟩
  obtain ⟨b, off, e, hl, hc⟩ := h4 hn
  exact ⟨b, off, e, Nat.lt_of_lt_of_le hl hb.size, fun j u hu => (hb.cell (p := ⟨b, off + j, none⟩) hl).trans (hc j u hu)⟩
def intsV (L : List Int) : List Value := L.map fun x => .int .i64 x
theorem intsV_len (L : List Int) : (intsV L).length = L.length := List.length_map _
theorem intsV_at {L : List Int} {j : Nat} {x : Int} (h : L[j]? = some x) : (intsV L)[j]? = some (.int .i64 x) := by unfold intsV; rw [List.getElem?_map, h]; rfl
theorem RowI.alloc {W : World} {c : List Value} {t : TypeId} (hn : c.length ≤ maxLen) : RowI (W.alloc (.cells c.toArray t)) (.slice (some ⟨W.heap.size, 0, none⟩) c.length c.length) c := by
  refine ⟨_, _, rfl, Nat.le_refl _, hn, fun _ => ⟨W.heap.size, 0, rfl, by simp, fun j u hu => ?_⟩⟩
  unfold World.cell?
  rw [show (W.alloc (.cells c.toArray t)).heap[W.heap.size]? = some (.cells c.toArray t) from World.alloc_heap_new W _]
  simpa using hu
def modI (m : Int) : Int := if m = 8 then 285 else if m = 16 then 69643 else 0
/-- Integers that are elements of the field. -/
def elB (m : Int) (x : Int) : Bool := decide (0 ≤ x) && decide (x < 2 ^ m.toNat)
def allB (m : Int) (L : List Int) : Bool := (modI m != 0) && L.all (elB m)
end Go.GF
namespace Go.Proofs.YtnilepaicnnbhaaDoor
open Go.RowKit Go.GF

/-- The table of the fields, as its initialiser lays it. -/
def TabF (w : World) : Prop := w.cell? ⟨0, 0, none⟩ = some (.int .i64 8) ∧ w.cell? ⟨0, 1, none⟩ = some (.int .i64 285) ∧ w.cell? ⟨0, 2, none⟩ = some (.int .i64 16) ∧ w.cell? ⟨0, 3, none⟩ = some (.int .i64 69643)
theorem TabF.pos {w : World} (h : TabF w) : 0 < w.heap.size := by
  have := h.1
  unfold World.cell? at this
  rcases Nat.eq_zero_or_pos w.heap.size with h | h
  · rw [Array.getElem?_eq_none (by simp only; omega)] at this; cases this
  · exact h
theorem TabF.below {w w' : World} (h : TabF w) (hb : Below w.heap.size w w') : TabF w' := by
  have hp := h.pos
  obtain ⟨h1, h2, h3, h4⟩ := h
  exact ⟨(hb.cell (p := ⟨0, 0, none⟩) hp).trans h1, (hb.cell (p := ⟨0, 1, none⟩) hp).trans h2, (hb.cell (p := ⟨0, 2, none⟩) hp).trans h3, (hb.cell (p := ⟨0, 3, none⟩) hp).trans h4⟩
set_option maxRecDepth 40000 in
theorem fix0 (w : World) : (Instr.index 123 (.agg #[.int .i64 8, .int .i64 285, .int .i64 16, .int .i64 69643]) (.int .i64 0)).run Tryd.prog w = .ok (.agg #[.int .i64 8, .int .i64 285]) w := by
  have h1 : Tryd.prog.underlying 123 = some (.array 2 122) := rfl
  simp [Instr.index, run_underlying h1, asIntOf, go_sem]
set_option maxRecDepth 40000 in
theorem fix1 (w : World) : (Instr.index 123 (.agg #[.int .i64 8, .int .i64 285, .int .i64 16, .int .i64 69643]) (.int .i64 1)).run Tryd.prog w = .ok (.agg #[.int .i64 16, .int .i64 69643]) w := by
  have h1 : Tryd.prog.underlying 123 = some (.array 2 122) := rfl
  simp [Instr.index, run_underlying h1, asIntOf, go_sem]
attribute [local go_sem high] fix0 fix1
structure MdSt (w : World) (m : Int) (i : Value) (wr : World) : Prop where
  st : ∃ k : Nat, k ≤ 2 ∧ i = .int .i64 (k : Int) ∧ (1 ≤ k → m ≠ 8) ∧ (2 ≤ k → m ≠ 16) ∧ Below w.heap.size w wr

set_option maxRecDepth 20000 in
set_option maxHeartbeats 1000000 in
theorem modulus_any (m : Int) (w : World) (hT : TabF w) : Calls Tryd.prog 92 #[.int .i64 m] w fun e w' => e = .returned (.int .i64 (modI m)) ∧ Below w.heap.size w w' := by
  obtain ⟨t0, t1, t2, t3⟩ := hT
  go_enter Tryd.func92, Tryd.ntmps92
  go_wp2
  go_loopw [6] (fun i wr => MdSt w m i wr) (fun i _ => 2 - (intOf i).toNat)
  case atStart => exact ⟨⟨0, by omega, rfl, by omega, by omega, Below.refl _ _⟩⟩
  case round =>
    obtain ⟨k, hk, hi, h1, h2, hb⟩ := hrel.st
    clear hrel t0 t1 t2 t3
    have HB := Lib.hid hb
    match k, hk with
    | 0, _ =>
      have hi' : u6 = .int .i64 0 := hi
      clear hi
      subst hi'
      clear h1 h2 hb
      by_cases hm : m = 8
      · subst hm
        go_wp2
        go_ret
        exact ⟨rfl, HB.out.alloc HB.out.size _⟩
      · have hmd : ((8 : Int) == m) = false := by simp; omega
        have HM := Lib.hid hm
        clear hm
        go_wp2
        go_roundw
        case rel => exact ⟨⟨1, by omega, rfl, fun _ => HM.out, by omega, HB.out.alloc HB.out.size _⟩⟩
        case measure => simp only [intOf]; omega
    | 1, _ =>
      have hi' : u6 = .int .i64 1 := hi
      clear hi
      subst hi'
      have HM := Lib.hid (h1 (by omega))
      clear h1 h2 hb
      by_cases hm : m = 16
      · subst hm
        go_wp2
        go_ret
        exact ⟨rfl, HB.out.alloc HB.out.size _⟩
      · have hmd : ((16 : Int) == m) = false := by simp; omega
        have HM2 := Lib.hid hm
        clear hm
        go_wp2
        go_roundw
        case rel => exact ⟨⟨2, by omega, rfl, fun _ => HM.out, fun _ => HM2.out, HB.out.alloc HB.out.size _⟩⟩
        case measure => simp only [intOf]; omega
    | 2, _ =>
      have hi' : u6 = .int .i64 2 := hi
      clear hi
      subst hi'
      have HM := Lib.hid (show modI m = 0 by unfold modI; rw [if_neg (h1 (by omega)), if_neg (h2 (by omega))])
      clear h1 h2 hb
      go_wp2
      go_ret
      exact ⟨by rw [HM.out]; rfl, HB.out⟩

structure IxSt (w : World) (L : List Int) (p : Int → Bool) (i : Value) (wr : World) : Prop where
  st : ∃ k : Nat, k ≤ L.length ∧ i = .int .i64 (k : Int) ∧ (L.take k).any p = false ∧ Below w.heap.size w wr
set_option maxRecDepth 20000 in
set_option maxHeartbeats 2000000 in
theorem ixf_any (v : Value) (L : List Int) (f : FuncId) (cap : Array Value) (p : Int → Bool) (w : World) (hcf : ∀ args w, (callFunc f args).run Tryd.prog w = .ok (.enter f args) w) (hv : RowI w v (intsV L))
    (hp : ∀ x ∈ L, ∀ W, Below w.heap.size w W → Calls Tryd.prog f (#[.int .i64 x] ++ cap) W fun e W' => e = .returned (.bool (p x)) ∧ Below W.heap.size W W') :
    Calls Tryd.prog 89 #[v, .func (.func f) #[] cap] w fun e w' => (∃ k : Int, e = .returned (.int .i64 k) ∧ (decide (0 ≤ k)) = L.any p) ∧ Below w.heap.size w w' := by
  obtain ⟨ao, cp, rfl, hlc, hcm, hrow⟩ := hv
  rw [intsV_len] at *
  unfold maxLen at hcm
  have hl63 : L.length ≤ 9223372036854775807 := by omega
  have HR := Lib.hid hrow
  have HP := Lib.hid hp
  clear hrow hp hlc hcm
  go_enter Tryd.func89, Tryd.ntmps89
  go_wp2
  go_loopw [8] (fun i wr => IxSt w L p i wr) (fun i _ => L.length - (intOf i).toNat)
  case atStart => exact ⟨⟨0, Nat.zero_le _, rfl, rfl, Below.refl _ _⟩⟩
  case round =>
    obtain ⟨k, hk, rfl, ha, hb⟩ := hrel.st
    clear hrel
    have HB := Lib.hid hb
    by_cases hlt : k < L.length
    · have hltd : decide ((k : Int) < (L.length : Int)) = true := decide_eq_true (by omega)
      have hki : (k : Int) ≤ 9223372036854775806 := by omega
      obtain ⟨x, hx⟩ : ∃ x, L[k]? = some x := ⟨_, List.getElem?_eq_getElem hlt⟩
      obtain ⟨b, off, rfl, hbl, hc⟩ := HR.out (by omega)
      have e0 := (hb.cell (p := ⟨b, off + k, none⟩) hbl).trans (hc k _ (intsV_at hx))
      have HC := Lib.hid (HP.out x (List.mem_of_getElem? hx) wr hb)
      have HT := Lib.hid (show (L.take (k + 1)).any p = p x by rw [List.take_add_one, hx, List.any_append, ha]; simp)
      have HA := Lib.hid (fun h : p x = true => show L.any p = true from List.any_eq_true.2 ⟨x, List.mem_of_getElem? hx, h⟩)
      clear ha hb hx hbl hc HP HR
      cases hpx : p x with
      | true =>
        rw [hpx] at HC HT
        go_wp2_with (refine HC.out.mono ?_; rintro e w1 ⟨rfl, h1⟩)
        go_ret
        exact ⟨⟨(k : Int), rfl, by rw [HA.out hpx]; exact decide_eq_true (by omega)⟩, HB.out.trans (h1.mono HB.out.size)⟩
      | false =>
        rw [hpx] at HC HT
        go_wp2_with (refine HC.out.mono ?_; rintro e w1 ⟨rfl, h1⟩)
        go_roundw
        case rel => exact ⟨⟨k + 1, by omega, rfl, HT.out, HB.out.trans (h1.mono HB.out.size)⟩⟩
        case measure => simp only [intOf]; omega
    · have hke : k = L.length := by omega
      have hltd : decide ((k : Int) < (L.length : Int)) = false := decide_eq_false (by omega)
      have HF := Lib.hid (show L.any p = false by rw [hke, List.take_length] at ha; exact ha)
      clear ha hb hke HP HR
      go_wp2
      go_ret
      exact ⟨⟨-1, rfl, by rw [HF.out]; rfl⟩, HB.out⟩
end Go.Proofs.YtnilepaicnnbhaaDoor
