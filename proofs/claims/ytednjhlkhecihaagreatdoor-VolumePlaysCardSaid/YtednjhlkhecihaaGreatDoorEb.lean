import Derived.Lib.TrailingZeros
import Derived.Test.YtednjhlkhecihaaGreatDoorVn
/- Where two trees of mappings differ: plain laws. They speak of no program. -/
namespace Go.Vol
open Go Go.RowKit

/-- The blocks that two maps do not map alike. -/
def dm (m m' : MapM) : MapM := fun i => if m i = m' i then none else some 0
theorem dm_sub (m m' : MapM) (L k : Nat) : sub (dm m m') L k = dm (sub m L k) (sub m' L k) := by
  funext i
  unfold sub dm
  by_cases h : i < 16 ^ (L + 1)
  · simp only [if_pos h]
  · simp only [if_neg h, if_true]
theorem dm_none {m m' : MapM} {i : Nat} (h : m i = m' i) : dm m m' i = none := by unfold dm; rw [if_pos h]
theorem dm_some {m m' : MapM} {i : Nat} (h : m i ≠ m' i) : dm m m' i = some 0 := by unfold dm; rw [if_neg h]

theorem maskN_inj {f g : Nat → Bool} {n : Nat} (h : maskN f n = maskN g n) : ∀ i, i < n → f i = g i := by
  intro i hi
  have h1 := maskN_bit f n i
  rw [h, maskN_bit g n i] at h1
  simpa [hi] using h1.symm

theorem nodeC_inj {h h' : Nat} {k k' c c' : List Value} {T : TypeId} {w : World} {b : Nat} (hk : k.length = k'.length) (h1 : w.heap[b]? = some (.cells (nodeC h k c) T (0, 0))) (h2 : w.heap[b]? = some (.cells (nodeC h' k' c') T (0, 0))) :
    h = h' ∧ k = k' ∧ c = c' := by
  rw [h1] at h2
  have h3 : nodeC h k c = nodeC h' k' c' := by
    simp only [Option.some.injEq, Obj.cells.injEq] at h2
    exact h2.1
  unfold nodeC at h3
  have h4 := congrArg Array.toList h3
  simp only at h4
  obtain ⟨h5, h6⟩ := List.cons.inj h4
  obtain ⟨h7, h8⟩ := List.append_inj h6 hk
  refine ⟨?_, h7, h8⟩
  simp only [Value.int.injEq] at h5
  omega

theorem NodeOk.inj {T : TypeId} {ok ok' : Nat → Prop} {w : World} : ∀ {L : Nat} {v : Value} {m m' : MapM}, NodeOk T ok w L v m → NodeOk T ok' w L v m' → ∀ i, i < 16 ^ (L + 1) → m i = m' i
  | L, v, m, m', h, h' => by
    obtain ⟨q, rfl⟩ := NodeOk.ptr h
    cases q with
    | none =>
      intro i hi
      rw [anyB_false.1 (NodeOk.nil h) i hi, anyB_false.1 (NodeOk.nil h') i hi]
    | some ad =>
      obtain ⟨b, rfl, hb, -, -⟩ := NodeOk.block h
      cases L with
      | zero =>
        obtain ⟨h1, -, -⟩ := NodeOk.leaf h
        obtain ⟨h2, -, -⟩ := NodeOk.leaf h'
        obtain ⟨e1, -, e3⟩ := nodeC_inj rfl h1 h2
        intro i hi
        have hi' : i < 16 := by simpa using hi
        have h5 := maskN_inj e1 i hi'
        have h6 := congrArg (fun l : List Value => l[i]?) e3
        simp only [chs_at m hi', chs_at m' hi', Option.some.injEq, Value.int.injEq, true_and] at h6
        cases hm : m i <;> cases hm' : m' i <;> rw [hm, hm'] at h5 h6 <;> simp_all
      | succ L =>
        obtain ⟨k1, l1, h1, g1, -, -⟩ := NodeOk.inner h
        obtain ⟨k2, l2, h2, g2, -, -⟩ := NodeOk.inner h'
        obtain ⟨-, e2, -⟩ := nodeC_inj (by rw [l1, l2]) h1 h2
        subst e2
        intro i hi
        have hp := pow16_pos (L + 1)
        have hd : i / 16 ^ (L + 1) < 16 := Nat.div_lt_of_lt_mul (by rw [Nat.pow_succ] at hi; exact hi)
        obtain ⟨kd, hkd⟩ : ∃ kd, k1[i / 16 ^ (L + 1)]? = some kd := ⟨_, List.getElem?_eq_getElem (by rw [l1]; exact hd)⟩
        have := NodeOk.inj (g1 _ _ hkd) (g2 _ _ hkd) (i % 16 ^ (L + 1)) (Nat.mod_lt _ hp)
        unfold sub at this
        rw [if_pos (Nat.mod_lt _ hp), if_pos (Nat.mod_lt _ hp)] at this
        rw [Nat.mul_comm, Nat.div_add_mod] at this
        exact this

/-- A node that is not nil, or the empty one that stands for nil. -/
def NodeV (T : TypeId) (ok : Nat → Prop) (w : World) (L b : Nat) (m : MapM) : Prop :=
  match L with
  | 0 => w.heap[b]? = some (.cells (nodeC (has0 m) nils (chs m)) T (0, 0))
  | L + 1 => ∃ kids : List Value, kids.length = 16 ∧ w.heap[b]? = some (.cells (nodeC (hasS m L) kids zers) T (0, 0)) ∧ ∀ j k, kids[j]? = some k → NodeOk T ok w L k (sub m L j)

theorem NodeV.cells {T : TypeId} {ok : Nat → Prop} {w : World} : ∀ {L b : Nat} {m : MapM}, NodeV T ok w L b m → ∃ c, w.heap[b]? = some (.cells c T (0, 0))
  | 0, _, _, h => ⟨_, h⟩
  | _ + 1, _, _, ⟨_, _, h, _⟩ => ⟨_, h⟩
/-- What the iterator asks of a round: what lay before the call lies there still, and so does every node. -/
structure KeepT (T : TypeId) (n₀ : Nat) (A B : World) : Prop where
  bel : Below n₀ A B
  nod : ∀ (k : Nat) (vs : Array Value) (fr : Nat × Nat), A.heap[k]? = some (Obj.cells vs T fr) → B.heap[k]? = A.heap[k]?
theorem KeepT.refl (T : TypeId) (n₀ : Nat) (A : World) : KeepT T n₀ A A := ⟨Below.refl _ _, fun _ _ _ _ => rfl⟩
theorem KeepT.trans {T : TypeId} {n₀ : Nat} {A B C : World} (h : KeepT T n₀ A B) (k : KeepT T n₀ B C) : KeepT T n₀ A C :=
  ⟨h.bel.trans k.bel, fun i vs fr hi => (k.nod i vs fr (by rw [h.nod i vs fr hi]; exact hi)).trans (h.nod i vs fr hi)⟩
theorem KeepT.alloc {T : TypeId} {n₀ : Nat} {A B : World} (h : KeepT T n₀ A B) (hn : n₀ ≤ B.heap.size) (o : Obj) : KeepT T n₀ A (B.alloc o) :=
  ⟨h.bel.alloc hn o, fun i vs fr hi => by
    have h1 := h.nod i vs fr hi
    rw [← h1]
    have h2 : i < B.heap.size := (Array.getElem?_eq_some_iff.1 (h1.trans hi)).1
    exact Below.heap_alloc _ _ _ h2⟩
theorem KeepT.drew (T : TypeId) (n₀ : Nat) (A : World) : KeepT T n₀ A A.drew := ⟨⟨rfl, rfl, rfl, Nat.le_refl _, fun _ _ => rfl⟩, fun _ _ _ _ => rfl⟩
theorem NodeV.keep {T : TypeId} {n₀ : Nat} {A B : World} (hk : KeepT T n₀ A B) : ∀ {L b : Nat} {m : MapM}, NodeV T (· < n₀) A L b m → NodeV T (· < n₀) B L b m
  | 0, _, _, h => (hk.nod _ _ _ h).trans h
  | _ + 1, _, _, ⟨kids, h1, h2, h3⟩ => ⟨kids, h1, (hk.nod _ _ _ h2).trans h2, fun j k hj => (h3 j k hj).keep fun i hi _ => hk.bel.block i hi⟩
theorem NodeV.of {T : TypeId} {ok : Nat → Prop} {w : World} {L b : Nat} {m : MapM} (h : NodeOk T ok w L (.pointer (some ⟨b, 0, none⟩)) m) : NodeV T ok w L b m := by
  cases L with
  | zero => exact (NodeOk.leaf h).1
  | succ L => obtain ⟨kids, h1, h2, h3, -, -⟩ := NodeOk.inner h; exact ⟨kids, h1, h2, h3⟩
theorem chs_zers {m : MapM} (h : ∀ i, i < 16 → m i = none) : chs m = zers := by
  unfold chs zers
  apply List.ext_getElem?
  intro i
  by_cases hi : i < 16
  · rw [List.getElem?_map, List.getElem?_range hi, List.getElem?_replicate, if_pos hi, Option.map_some, h i hi]; rfl
  · rw [List.getElem?_map, List.getElem?_replicate, if_neg hi, List.getElem?_eq_none (by simpa using hi)]; rfl
/-- The empty node stands for nil. -/
theorem NodeV.none {T : TypeId} {ok : Nat → Prop} {w : World} {L b : Nat} {m : MapM} (hb : w.heap[b]? = some (.cells (nodeC 0 nils zers) T (0, 0))) (h : anyB (16 ^ (L + 1)) m = false) : NodeV T ok w L b m := by
  cases L with
  | zero =>
    have h1 : has0 m = 0 := has0_zero.2 h
    have h2 := chs_zers (m := m) (anyB_false.1 h)
    unfold NodeV
    rw [h1, h2]; exact hb
  | succ L =>
    have h1 : hasS m L = 0 := hasS_zero.2 h
    refine ⟨nils, by simp [nils], by rw [h1]; exact hb, fun j k hj => ?_⟩
    have hj16 : j < 16 := by have := (List.getElem?_eq_some_iff.1 hj).1; simpa [nils] using this
    rw [nils_at hj]
    refine NodeOk.mk_nil ?_
    cases hs : anyB (16 ^ (L + 1)) (sub m L j) with
    | false => rfl
    | true => rw [any_sub.2 ⟨j, hj16, hs⟩] at h; cases h

theorem itemsF_skip {m : MapM} {first a : Nat} : ∀ d, (∀ i, a ≤ i → i < a + d → m i = none) → itemsF (a + d) first m = itemsF a first m
  | 0, _ => rfl
  | d + 1, h => by rw [← Nat.add_assoc, itemsF_none (h (a + d) (by omega) (by omega)), itemsF_skip d fun i h1 h2 => h i h1 (by omega)]

/-! ### the lowest bit of a mask -/
/-- both: the bits of h from j on. -/
structure BitsFrom (h j both : Nat) : Prop where
  lt : both < 65536
  bit : ∀ i, both.testBit i = (decide (j ≤ i) && h.testBit i)
theorem BitsFrom.start {h : Nat} (hl : h < 65536) : BitsFrom h 0 h := ⟨hl, fun i => by simp⟩
theorem BitsFrom.zero {h j : Nat} (hb : BitsFrom h j 0) : ∀ i, j ≤ i → h.testBit i = false := fun i hi => by
  have := hb.bit i
  simpa [hi] using this.symm
theorem low_bit {x : Nat} (h0 : x ≠ 0) (hl : x < 65536) : x = 2 ^ Lib.ctz 16 x * (2 * (x / 2 ^ (Lib.ctz 16 x + 1)) + 1) ∧ Lib.ctz 16 x < 16 := by
  obtain ⟨m, hm, hk⟩ := Lib.ctzFrom_spec 16 x (by omega) (by omega)
  have e : Lib.ctz 16 x = Lib.ctzFrom 16 x := by simp [Lib.ctz, h0]
  rw [e]
  refine ⟨?_, hk⟩
  have hd : x / 2 ^ (Lib.ctzFrom 16 x + 1) = m := by
    generalize Lib.ctzFrom 16 x = c at *
    rw [Nat.pow_succ, ← Nat.div_div_eq_div_mul, hm, Nat.mul_div_cancel_left _ (Nat.pow_pos (by omega))]
    omega
  rw [hd]; exact hm
theorem low_and {k q : Nat} : (2 ^ k * (2 * q + 1)) &&& (2 ^ k * (2 * q + 1) - 1) = 2 ^ k * (2 * q) := by
  have hp : 0 < 2 ^ k := Nat.pow_pos (by omega)
  have e : 2 ^ k * (2 * q + 1) - 1 = 2 ^ k * (2 * q) + (2 ^ k - 1) := by
    rw [Nat.mul_add, Nat.mul_one]; omega
  have e2 : 2 ^ k * (2 * q + 1) = 2 ^ k * (2 * q) + 2 ^ k := by rw [Nat.mul_add, Nat.mul_one]
  apply Nat.eq_of_testBit_eq
  intro i
  rw [e, Nat.testBit_and, Nat.testBit_two_pow_mul_add _ (by omega), Nat.testBit_two_pow_mul, Nat.testBit_two_pow_mul]
  by_cases hik : i < k
  · simp [hik, show ¬ k ≤ i by omega]
  · rw [if_neg hik]
    have hki : k ≤ i := by omega
    simp only [hki, decide_true, Bool.true_and]
    cases hj : i - k with
    | zero => simp
    | succ j =>
      rw [Nat.testBit_succ, Nat.testBit_succ]
      rw [show (2 * q + 1) / 2 = q by omega, show 2 * q / 2 = q by omega, Bool.and_self]
/-- The lowest bit is taken off. -/
theorem BitsFrom.next {h j both : Nat} (hb : BitsFrom h j both) (h0 : both ≠ 0) : j ≤ Lib.ctz 16 both ∧ Lib.ctz 16 both < 16 ∧ h.testBit (Lib.ctz 16 both) = true ∧ (∀ i, j ≤ i → i < Lib.ctz 16 both → h.testBit i = false) ∧
    BitsFrom h (Lib.ctz 16 both + 1) (both &&& (both - 1)) := by
  obtain ⟨h1, h2⟩ := low_bit h0 hb.lt
  generalize Lib.ctz 16 both = k at *
  generalize both / 2 ^ (k + 1) = q at *
  have ht : ∀ i, both.testBit i = (decide (k ≤ i) && (2 * q + 1).testBit (i - k)) := fun i => by rw [h1, Nat.testBit_two_pow_mul]
  have hk : both.testBit k = true := by rw [ht k]; simp
  have hk2 := hb.bit k
  rw [hk] at hk2
  have hjk : j ≤ k ∧ h.testBit k = true := by simpa using hk2.symm
  refine ⟨hjk.1, h2, hjk.2, fun i hi hik => ?_, ?_⟩
  · have := hb.bit i
    rw [ht i] at this
    simpa [show ¬ k ≤ i by omega, hi] using this.symm
  · have hl := hb.lt
    have ea : both &&& (both - 1) = 2 ^ k * (2 * q) := by
      rw [h1]; exact low_and
    refine ⟨Nat.lt_of_le_of_lt Nat.and_le_left hl, fun i => ?_⟩
    rw [ea, Nat.testBit_two_pow_mul]
    by_cases hik : k + 1 ≤ i
    · have hb2 := hb.bit i
      rw [ht i] at hb2
      obtain ⟨d, rfl⟩ : ∃ d, i = k + (d + 1) := ⟨i - k - 1, by omega⟩
      have e1 : k + (d + 1) - k = d + 1 := by omega
      rw [e1] at hb2 ⊢
      rw [Nat.testBit_succ, show (2 * q + 1) / 2 = q by omega] at hb2
      rw [Nat.testBit_succ, show 2 * q / 2 = q by omega]
      have hj2 : j ≤ k + (d + 1) := by omega
      simp only [show k ≤ k + (d + 1) by omega, hik, hj2, decide_true, Bool.true_and] at hb2 ⊢
      exact hb2
    · simp only [hik, decide_false, Bool.false_and]
      by_cases hk3 : k ≤ i
      · obtain rfl : i = k := by omega
        simp
      · simp [hk3]
/-- 'x & -x', times the number of de Bruijn, names k in the table. -/
theorem tz_idx {x : Nat} (h0 : x ≠ 0) (hl : x < 65536) : (x &&& (65536 - x)) * 125613361 % 4294967296 / 134217728 < 32 ∧ Lib.deBruijn32tab.getD ((x &&& (65536 - x)) * 125613361 % 4294967296 / 134217728) 0 = Lib.ctz 16 x := by
  obtain ⟨h1, h2⟩ := Lib.lowest_bit 16 x h0 hl
  rw [show (65536 : Nat) = 2 ^ 16 from rfl, h1]
  exact Lib.deBruijn32_at _ (by omega)
end Go.Vol

/- math/bits.TrailingZeros16: the lowest set bit, by the table that start-up lays. -/
namespace Go.Proofs.YtednjhlkhecihaaGreatDoor
open Go.RowKit Go.Vol

/-- The table, as its initialiser lays it. -/
def TabW (w : World) : Prop := ∀ k, k < 32 → w.cell? ⟨0, k, none⟩ = some (.int .u8 ((Lib.deBruijn32tab.getD k 0 : Nat) : Int))
theorem TabW.keep {w w' : World} (h : TabW w) (hb : w'.heap[0]? = w.heap[0]?) : TabW w' := fun k hk => by
  have := h k hk
  unfold World.cell? at this ⊢
  simp only at this ⊢
  rw [hb]; exact this

set_option maxHeartbeats 1000000 in
theorem tz16_core (x k idx : Nat) (w : World) (hx0 : ((x : Int) == 0) = false)
    (key : bits BinOp.and IntKind.u16 (x : Int) (IntKind.u16.wrap (-(x : Int))) % 4294967296 * 125613361 % 4294967296 / 134217728 = (idx : Int))
    (hi : idx < 32) (hk : k < 32) (hcell : w.cell? ⟨0, idx, none⟩ = some (.int .u8 k)) :
    Calls Tryz.prog 105 #[.int .u16 (x : Int)] w fun e w' => e = .returned (.int .i64 (k : Int)) ∧ w' = w := by
  go_enter Tryz.func105, Tryz.ntmps105
  go_wp2_with (simp only [key])
  go_ret
  exact ⟨rfl, rfl⟩
theorem tz16_key (x a : Nat) (hx : x < 65536) (hx0 : x ≠ 0) (hlow : x &&& (65536 - x) = a) :
    bits BinOp.and IntKind.u16 (x : Int) (IntKind.u16.wrap (-(x : Int))) % 4294967296 * 125613361 % 4294967296 / 134217728 = ((a * 125613361 % 4294967296 / 134217728 : Nat) : Int) := by
  have e1 : IntKind.u16.wrap (-(x : Int)) = ((65536 - x : Nat) : Int) := by
    have : IntKind.u16.wrap (-(x : Int)) = (-(x : Int)) % 65536 := by simp [IntKind.wrap, IntKind.signed, IntKind.bits]
    rw [this]; omega
  have hl : a < 65536 := by rw [← hlow]; exact Nat.lt_of_le_of_lt Nat.and_le_left hx
  rw [e1, u16_and_nat x _ hx (by omega), hlow]
  omega
theorem tz16_any (x : Nat) (h0 : x ≠ 0) (hl : x < 65536) (w : World) (hT : TabW w) : Calls Tryz.prog 105 #[.int .u16 (x : Int)] w fun e w' => e = .returned (.int .i64 ((Lib.ctz 16 x : Nat) : Int)) ∧ w' = w := by
  obtain ⟨h1, h2⟩ := tz_idx h0 hl
  have hc := hT _ h1
  rw [h2] at hc
  exact tz16_core x _ _ w (by simp; omega) (tz16_key x _ hl h0 rfl) h1 (by have := (low_bit h0 hl).2; omega) hc
end Go.Proofs.YtednjhlkhecihaaGreatDoor
