import Derived.WalkKit
import Derived.Laws.BitsAllLaws
import Derived.IntWalk
import Derived.Test.YteikbikopgabjaaGreatDoorProg
import Derived.Lib.Hide
import Derived.Deep.Cut
import Derived.Deep.QuietTactic
import Derived.BigQuiet
import Derived.WalkSmall
/- Part 11 of a proof; the last part says what is proved. -/
namespace Go.Vol
open Go Go.RowKit
abbrev MapM := Nat → Option Int
def upd (m : MapM) (b : Nat) (v : Option Int) : MapM := fun i => if i = b then v else m i
def anyB (n : Nat) (m : MapM) : Bool := (List.range n).any fun i => (m i).isSome
def sub (m : MapM) (L j : Nat) : MapM := fun i => if i < 16 ^ (L + 1) then m (j * 16 ^ (L + 1) + i) else none
def maskN (f : Nat → Bool) : Nat → Nat
 | 0 => 0
 | k + 1 => maskN f k + if f k then 2 ^ k else 0
def has0 (m : MapM) : Nat := maskN (fun i => (m i).isSome) 16
def hasS (m : MapM) (L : Nat) : Nat := maskN (fun j => anyB (16 ^ (L + 1)) (sub m L j)) 16
theorem maskN_lt (f : Nat → Bool) : ∀ n, maskN f n < 2 ^ n
 | 0 => by simp [maskN]
 | k + 1 => by
  have := maskN_lt f k
  unfold maskN
  rw [Nat.pow_succ]
  split <;> omega
theorem maskN_bit (f : Nat → Bool) : ∀ n i, (maskN f n).testBit i = (decide (i < n) && f i)
 | 0, i => by simp [maskN]
 | k + 1, i => by
  have ih := maskN_bit f k
  have hlt := maskN_lt f k
  unfold maskN
  by_cases hk : f k = true
  ·rw [if_pos hk, Nat.add_comm]
   by_cases hik : i = k
   ·subst hik
    rw [Nat.testBit_two_pow_add_eq]
    rw [Nat.testBit_lt_two_pow hlt]
    simp [hk]
   ·by_cases hlt' : i < k
    ·rw [Nat.testBit_two_pow_add_gt hlt', ih]
     simp [hlt', show i < k + 1 by omega]
    ·have : 2 ^ k + maskN f k < 2 ^ i := by
      have h1 : 2 ^ (k + 1) ≤ 2 ^ i := Nat.pow_le_pow_right (by omega) (by omega)
      rw [Nat.pow_succ] at h1; omega
     rw [Nat.testBit_lt_two_pow this]
     simp [show ¬ i < k + 1 by omega]
  ·rw [if_neg hk, Nat.add_zero, ih]
   by_cases hik : i = k
   ·subst hik; simp; simpa using hk
   ·congr 1
    apply propext_decide
    omega
 where propext_decide {a b : Prop} [Decidable a] [Decidable b] (h : a ↔ b) : decide a = decide b := by by_cases ha : a <;> simp [ha, h.1, ← h]
theorem maskN_congr {f g : Nat → Bool} {n : Nat} (h : ∀ i, i < n → f i = g i) : maskN f n = maskN g n := by
 apply Nat.eq_of_testBit_eq
 intro i
 rw [maskN_bit, maskN_bit]
 by_cases hi : i < n
 ·simp [hi, h i hi]
 ·simp [hi]
theorem maskN_or {f g : Nat → Bool} {n s : Nat} (hs : s < n) (h : ∀ i, i < n → g i = (decide (i = s) || f i)) : maskN g n = maskN f n ||| (1 <<< s) := by
 apply Nat.eq_of_testBit_eq
 intro i
 rw [Nat.testBit_or, maskN_bit, maskN_bit, Nat.one_shiftLeft, Nat.testBit_two_pow]
 by_cases hi : i < n
 ·rw [h i hi]
  simp only [hi, decide_true, Bool.true_and]
  rw [Bool.or_comm]
  by_cases his : i = s
  ·simp [his]
  ·simp [his, Ne.symm his]
 ·have : s ≠ i := by omega
  simp [hi, this]
theorem maskN_zero {f : Nat → Bool} {n : Nat} : maskN f n = 0 ↔ ∀ i, i < n → f i = false := by
 constructor
 ·intro h i hi
  have := maskN_bit f n i
  rw [h] at this
  simpa [hi] using this.symm
 ·intro h
  apply Nat.eq_of_testBit_eq
  intro i
  rw [maskN_bit, Nat.zero_testBit]
  by_cases hi : i < n
  ·simp [hi, h i hi]
  ·simp [hi]
theorem anyB_true {n : Nat} {m : MapM} : anyB n m = true ↔ ∃ i, i < n ∧ m i ≠ none := by
 unfold anyB
 rw [List.any_eq_true]
 constructor
 ·rintro ⟨i, hi, h⟩
  exact ⟨i, by simpa using hi, by intro h'; rw [h'] at h; simp at h⟩
 ·rintro ⟨i, hi, h⟩
  exact ⟨i, by simpa using hi, by cases hm : m i <;> simp_all⟩
theorem anyB_false {n : Nat} {m : MapM} : anyB n m = false ↔ ∀ i, i < n → m i = none := by
 constructor
 ·intro h i hi
  cases hm : m i with
  | none => rfl
  | some x =>
   have : anyB n m = true := anyB_true.2 ⟨i, hi, by rw [hm]; simp⟩
   rw [h] at this; cases this
 ·intro h
  cases h' : anyB n m with
  | false => rfl
  | true => obtain ⟨i, hi, h2⟩ := anyB_true.1 h'; exact absurd (h i hi) h2
theorem anyB_upd_some {n : Nat} {m : MapM} {b : Nat} {c : Int} (hb : b < n) : anyB n (upd m b (some c)) = true := anyB_true.2 ⟨b, hb, by simp [upd]⟩
theorem pow16_pos (L : Nat) : 0 < 16 ^ L := Nat.pow_pos (by omega)
theorem sub_upd {m : MapM} {L b : Nat} {v : Option Int} (j : Nat) : sub (upd m b v) L j = if j = b / 16 ^ (L + 1) then upd (sub m L j) (b % 16 ^ (L + 1)) v else sub m L j := by
 have hp := pow16_pos (L + 1)
 have hd := Nat.div_add_mod b (16 ^ (L + 1))
 have hm := Nat.mod_lt b hp
 generalize hq : 16 ^ (L + 1) = q at *
 split
 ·rename_i hj
  subst hj
  funext i
  simp only [sub, upd, hq]
  by_cases hi : i < q
  ·rw [if_pos hi]
   by_cases hib : i = b % q
   ·rw [if_pos hib, if_pos (by rw [hib, Nat.mul_comm]; exact hd)]
   ·rw [if_neg hib, if_pos hi, if_neg]
    intro h
    apply hib
    rw [Nat.mul_comm] at h; omega
  ·rw [if_neg hi, if_neg (by omega), if_neg hi]
 ·rename_i hj
  funext i
  simp only [sub, upd, hq]
  by_cases hi : i < q
  ·rw [if_pos hi, if_pos hi, if_neg]
   intro h
   apply hj
   rw [← h, Nat.mul_comm, Nat.mul_add_div hp, Nat.div_eq_of_lt hi, Nat.add_zero]
  ·rw [if_neg hi, if_neg hi]
theorem sub_any {m : MapM} {L j : Nat} (hj : j < 16) : anyB (16 ^ (L + 1)) (sub m L j) = true → anyB (16 ^ (L + 2)) m = true := by
 intro h
 obtain ⟨i, hi, hm⟩ := anyB_true.1 h
 unfold sub at hm
 rw [if_pos hi] at hm
 refine anyB_true.2 ⟨_, ?_, hm⟩
 rw [Nat.pow_succ 16 (L + 1)]
 have h1 : (j + 1) * 16 ^ (L + 1) ≤ 16 * 16 ^ (L + 1) := Nat.mul_le_mul_right _ (by omega)
 rw [Nat.add_mul, Nat.one_mul, Nat.mul_comm 16] at h1
 omega
theorem any_sub {m : MapM} {L : Nat} : anyB (16 ^ (L + 2)) m = true ↔ ∃ j, j < 16 ∧ anyB (16 ^ (L + 1)) (sub m L j) = true := by
 constructor
 ·intro h
  obtain ⟨i, hi, hm⟩ := anyB_true.1 h
  have hp := pow16_pos (L + 1)
  rw [Nat.pow_succ 16 (L + 1)] at hi
  refine ⟨i / 16 ^ (L + 1), Nat.div_lt_of_lt_mul hi, anyB_true.2 ⟨i % 16 ^ (L + 1), Nat.mod_lt _ hp, ?_⟩⟩
  unfold sub
  rw [if_pos (Nat.mod_lt _ hp), Nat.mul_comm, Nat.div_add_mod]
  exact hm
 ·rintro ⟨j, hj, h⟩
  exact sub_any hj h
theorem has0_lt (m : MapM) : has0 m < 65536 := maskN_lt _ 16
theorem hasS_lt (m : MapM) (L : Nat) : hasS m L < 65536 := maskN_lt _ 16
theorem has0_bit (m : MapM) {i : Nat} (hi : i < 16) : (has0 m).testBit i = (m i).isSome := by unfold has0; rw [maskN_bit]; simp [hi]
theorem hasS_bit (m : MapM) (L : Nat) {i : Nat} (hi : i < 16) : (hasS m L).testBit i = anyB (16 ^ (L + 1)) (sub m L i) := by unfold hasS; rw [maskN_bit]; simp [hi]
theorem has0_zero {m : MapM} : has0 m = 0 ↔ anyB 16 m = false := by
 unfold has0
 rw [maskN_zero, anyB_false]
 constructor
 ·intro h i hi; simpa using h i hi
 ·intro h i hi; simp [h i hi]
theorem hasS_zero {m : MapM} {L : Nat} : hasS m L = 0 ↔ anyB (16 ^ (L + 2)) m = false := by
 unfold hasS
 rw [maskN_zero]
 constructor
 ·intro h
  cases h' : anyB (16 ^ (L + 2)) m with
  | false => rfl
  | true => obtain ⟨j, hj, h2⟩ := any_sub.1 h'; rw [h j hj] at h2; cases h2
 ·intro h i hi
  cases h' : anyB (16 ^ (L + 1)) (sub m L i) with
  | false => rfl
  | true => rw [sub_any hi h'] at h; cases h
theorem has0_set (m : MapM) {s : Nat} (c : Int) (hs : s < 16) : has0 (upd m s (some c)) = has0 m ||| (1 <<< s) := by
 unfold has0
 refine maskN_or hs fun i _ => ?_
 unfold upd
 by_cases h : i = s <;> simp [h]
theorem hasS_set (m : MapM) (L : Nat) {b : Nat} (c : Int) (hb : b < 16 ^ (L + 2)) : hasS (upd m b (some c)) L = hasS m L ||| (1 <<< (b / 16 ^ (L + 1))) := by
 have hp := pow16_pos (L + 1)
 unfold hasS
 refine maskN_or (Nat.div_lt_of_lt_mul (by rw [Nat.pow_succ 16 (L + 1)] at hb; exact hb)) fun i _ => ?_
 rw [sub_upd]
 by_cases h : i = b / 16 ^ (L + 1)
 ·rw [if_pos h, anyB_upd_some (Nat.mod_lt _ hp)]; simp [h]
 ·rw [if_neg h]; simp [h]
def nodeC (h : Nat) (kids ch : List Value) : Array Value := ((Value.int .u16 (h : Int)) :: (kids ++ ch)).toArray
def nils : List Value := List.replicate 16 (.pointer none)
def zers : List Value := List.replicate 16 (.int .i64 0)
def chs (m : MapM) : List Value := (List.range 16).map fun i => .int .i64 ((m i).getD 0)
def NodeOk (T : TypeId) (ok : Nat → Prop) (w : World) : Nat → Value → MapM → Prop
 | 0, v, m => (v = .pointer none ∧ anyB 16 m = false) ∨ ∃ b : Nat, v = .pointer (some ⟨b, 0, none⟩) ∧ anyB 16 m = true ∧ w.heap[b]? = some (.cells (nodeC (has0 m) nils (chs m)) T (0, 0)) ∧ ok b
 | L + 1, v, m => (v = .pointer none ∧ anyB (16 ^ (L + 2)) m = false) ∨ ∃ (b : Nat) (kids : List Value), v = .pointer (some ⟨b, 0, none⟩) ∧ anyB (16 ^ (L + 2)) m = true ∧ kids.length = 16 ∧
   w.heap[b]? = some (.cells (nodeC (hasS m L) kids zers) T (0, 0)) ∧ (∀ j k, kids[j]? = some k → NodeOk T ok w L k (sub m L j)) ∧ ok b
def anyBlock : Nat → Prop := fun _ => True
def NodeAt (T : TypeId) (w : World) (L : Nat) (v : Value) (m : MapM) : Prop := NodeOk T anyBlock w L v m
section
variable {T : TypeId} {ok ok' : Nat → Prop} {w w' : World}
theorem NodeOk.keep (hk : ∀ k, ok k → k < w.heap.size → w'.heap[k]? = w.heap[k]?) : ∀ {L : Nat} {v : Value} {m : MapM}, NodeOk T ok w L v m → NodeOk T ok w' L v m
 | 0, v, m, h => by
  rcases h with h | ⟨b, h1, h2, h3, h4⟩
  ·exact .inl h
  ·exact .inr ⟨b, h1, h2, by rw [hk b h4 (Array.getElem?_eq_some_iff.1 h3).1]; exact h3, h4⟩
 | L + 1, v, m, h => by
  rcases h with h | ⟨b, kids, h1, h2, h3, h4, h5, h6⟩
  ·exact .inl h
  ·exact .inr ⟨b, kids, h1, h2, h3, by rw [hk b h6 (Array.getElem?_eq_some_iff.1 h4).1]; exact h4, fun j k hj => NodeOk.keep hk (h5 j k hj), h6⟩
theorem NodeOk.weaken (hk : ∀ k, ok k → k < w.heap.size → ok' k) : ∀ {L : Nat} {v : Value} {m : MapM}, NodeOk T ok w L v m → NodeOk T ok' w L v m
 | 0, v, m, h => by
  rcases h with h | ⟨b, h1, h2, h3, h4⟩
  ·exact .inl h
  ·exact .inr ⟨b, h1, h2, h3, hk b h4 (Array.getElem?_eq_some_iff.1 h3).1⟩
 | L + 1, v, m, h => by
  rcases h with h | ⟨b, kids, h1, h2, h3, h4, h5, h6⟩
  ·exact .inl h
  ·exact .inr ⟨b, kids, h1, h2, h3, h4, fun j k hj => NodeOk.weaken hk (h5 j k hj), hk b h6 (Array.getElem?_eq_some_iff.1 h4).1⟩
theorem NodeOk.below (hb : Below w.heap.size w w') {L : Nat} {v : Value} {m : MapM} (h : NodeOk T ok w L v m) : NodeOk T ok w' L v m := h.keep fun k _ hk => hb.block k hk
theorem NodeOk.at {L : Nat} {v : Value} {m : MapM} (h : NodeOk T ok w L v m) : NodeAt T w L v m := h.weaken fun _ _ _ => trivial
theorem NodeAt.below (hb : Below w.heap.size w w') {L : Nat} {v : Value} {m : MapM} (h : NodeAt T w L v m) : NodeAt T w' L v m := NodeOk.below hb h
theorem NodeOk.nil : ∀ {L : Nat} {m : MapM}, NodeOk T ok w L (.pointer none) m → anyB (16 ^ (L + 1)) m = false
 | 0, _, .inl h => h.2
 | 0, _, .inr ⟨_, h, _⟩ => by cases h
 | _ + 1, _, .inl h => h.2
 | _ + 1, _, .inr ⟨_, _, h, _⟩ => by cases h
theorem NodeAt.nil {L : Nat} {m : MapM} (h : NodeAt T w L (.pointer none) m) : anyB (16 ^ (L + 1)) m = false := NodeOk.nil h
theorem NodeOk.mk_nil : ∀ {L : Nat} {m : MapM}, anyB (16 ^ (L + 1)) m = false → NodeOk T ok w L (.pointer none) m
 | 0, _, h => .inl ⟨rfl, h⟩
 | _ + 1, _, h => .inl ⟨rfl, h⟩
theorem NodeOk.ptr : ∀ {L : Nat} {v : Value} {m : MapM}, NodeOk T ok w L v m → ∃ q : Option Addr, v = .pointer q
 | 0, _, _, .inl h => ⟨_, h.1⟩
 | 0, _, _, .inr ⟨_, h, _⟩ => ⟨_, h⟩
 | _ + 1, _, _, .inl h => ⟨_, h.1⟩
 | _ + 1, _, _, .inr ⟨_, _, h, _⟩ => ⟨_, h⟩
theorem NodeAt.ptr {L : Nat} {v : Value} {m : MapM} (h : NodeAt T w L v m) : ∃ q : Option Addr, v = .pointer q := NodeOk.ptr h
theorem NodeOk.block : ∀ {L : Nat} {ad : Addr} {m : MapM}, NodeOk T ok w L (.pointer (some ad)) m → ∃ b : Nat, ad = ⟨b, 0, none⟩ ∧ b < w.heap.size ∧ ok b ∧ anyB (16 ^ (L + 1)) m = true
 | 0, _, _, .inl h => by cases h.1
 | 0, _, _, .inr ⟨b, h, h2, h3, h4⟩ => ⟨b, by simpa using h, (Array.getElem?_eq_some_iff.1 h3).1, h4, h2⟩
 | _ + 1, _, _, .inl h => by cases h.1
 | _ + 1, _, _, .inr ⟨b, _, h, h2, _, h3, _, h4⟩ => ⟨b, by simpa using h, (Array.getElem?_eq_some_iff.1 h3).1, h4, h2⟩
theorem NodeOk.leaf {b : Nat} {m : MapM} (h : NodeOk T ok w 0 (.pointer (some ⟨b, 0, none⟩)) m) : w.heap[b]? = some (.cells (nodeC (has0 m) nils (chs m)) T (0, 0)) ∧ ok b ∧ anyB 16 m = true := by
 rcases h with h | ⟨b', h1, h2, h3, h4⟩
 ·cases h.1
 ·obtain rfl : b = b' := by simpa using h1
  exact ⟨h3, h4, h2⟩
theorem NodeOk.inner {L b : Nat} {m : MapM} (h : NodeOk T ok w (L + 1) (.pointer (some ⟨b, 0, none⟩)) m) : ∃ kids : List Value, kids.length = 16 ∧ w.heap[b]? = some (.cells (nodeC (hasS m L) kids zers) T (0, 0)) ∧
  (∀ j k, kids[j]? = some k → NodeOk T ok w L k (sub m L j)) ∧ ok b ∧ anyB (16 ^ (L + 2)) m = true := by
 rcases h with h | ⟨b', kids, h1, h2, h3, h4, h5, h6⟩
 ·cases h.1
 ·obtain rfl : b = b' := by simpa using h1
  exact ⟨kids, h3, h4, h5, h6, h2⟩
theorem NodeOk.congr : ∀ {L : Nat} {v : Value} {m m' : MapM}, (∀ i, i < 16 ^ (L + 1) → m i = m' i) → NodeOk T ok w L v m → NodeOk T ok w L v m'
 | 0, v, m, m', he, h => by
  have e1 : anyB 16 m = anyB 16 m' := by
   unfold anyB
   rw [Bool.eq_iff_iff, List.any_eq_true, List.any_eq_true]
   constructor <;> (rintro ⟨i, hi, h⟩; refine ⟨i, hi, ?_⟩; have := he i (by simpa using hi); simp_all)
  have e2 : has0 m = has0 m' := maskN_congr fun i hi => by rw [he i (by simpa using hi)]
  have e3 : chs m = chs m' := by unfold chs; apply List.map_congr_left; intro i hi; rw [he i (by simpa using hi)]
  unfold NodeOk at h ⊢
  rw [← e1, ← e2, ← e3]; exact h
 | L + 1, v, m, m', he, h => by
  have e0 : ∀ j, j < 16 → sub m L j = sub m' L j := by
   intro j hj
   funext i
   unfold sub
   by_cases hi : i < 16 ^ (L + 1)
   ·rw [if_pos hi, if_pos hi]
    apply he
    rw [Nat.pow_succ 16 (L + 1)]
    have h1 : (j + 1) * 16 ^ (L + 1) ≤ 16 * 16 ^ (L + 1) := Nat.mul_le_mul_right _ (by omega)
    rw [Nat.add_mul, Nat.one_mul, Nat.mul_comm 16] at h1
    omega
   ·rw [if_neg hi, if_neg hi]
  have e2 : hasS m L = hasS m' L := maskN_congr fun i hi => by rw [e0 i hi]
  have e1 : anyB (16 ^ (L + 2)) m = anyB (16 ^ (L + 2)) m' := by
   rw [Bool.eq_iff_iff, any_sub, any_sub]
   constructor <;> (rintro ⟨j, hj, h⟩; refine ⟨j, hj, ?_⟩; have := e0 j hj; simp_all)
  unfold NodeOk at h ⊢
  rw [← e1, ← e2]
  rcases h with h | ⟨b, kids, h1, h2, h3, h4, h5, h6⟩
  ·exact .inl h
  ·exact .inr ⟨b, kids, h1, h2, h3, h4, fun j k hj => by rw [← e0 j (by rw [← h3]; exact (List.getElem?_eq_some_iff.1 hj).1)]; exact h5 j k hj, h6⟩
end
theorem nils_at {s : Nat} {k : Value} (h : nils[s]? = some k) : k = .pointer none := by
 unfold nils at h
 rw [List.getElem?_replicate] at h
 split at h <;> simp_all
theorem chs_at (m : MapM) {s : Nat} (hs : s < 16) : (chs m)[s]? = some (.int .i64 ((m s).getD 0)) := by
 unfold chs
 rw [List.getElem?_map, List.getElem?_range hs]; rfl
theorem chs_set (m : MapM) {s : Nat} (v : Option Int) (hs : s < 16) : (chs m).set s (.int .i64 (v.getD 0)) = chs (upd m s v) := by
 apply List.ext_getElem?
 intro i
 rw [List.getElem?_set]
 unfold chs
 by_cases hi : i < 16
 ·rw [List.getElem?_map, List.getElem?_range hi, List.getElem?_map, List.getElem?_range hi]
  simp only [List.length_map, List.length_range, hs, if_true, Option.map_some, upd]
  by_cases h : s = i
  ·subst h; simp
  ·simp [h, Ne.symm h]
 ·have h1 : s ≠ i := by omega
  simp [h1, hi]
theorem chs_len (m : MapM) : (chs m).length = 16 := by simp [chs]
theorem nodeC_set0 (h h' : Nat) (kids ch : List Value) : (nodeC h kids ch).setIfInBounds 0 (.int .u16 (h' : Int)) = nodeC h' kids ch := by
 unfold nodeC; simp
theorem nodeC_setKid (h s : Nat) (kids ch : List Value) (v : Value) (hk : kids.length = 16) (hs : s < 16) : (nodeC h kids ch).setIfInBounds (1 + s) v = nodeC h (kids.set s v) ch := by
 unfold nodeC
 rw [List.setIfInBounds_toArray, Nat.add_comm 1 s, List.set_cons_succ, List.set_append_left _ _ (by omega)]
theorem nodeC_setCh (h s : Nat) (kids ch : List Value) (v : Value) (hk : kids.length = 16) : (nodeC h kids ch).setIfInBounds (17 + s) v = nodeC h kids (ch.set s v) := by
 unfold nodeC
 rw [List.setIfInBounds_toArray, show 17 + s = (16 + s) + 1 by omega, List.set_cons_succ, List.set_append_right _ _ (by omega), hk, Nat.add_sub_cancel_left]
theorem nodeC_size (h : Nat) (kids ch : List Value) (hk : kids.length = 16) (hc : ch.length = 16) : (nodeC h kids ch).size = 33 := by
 unfold nodeC; simp [hk, hc]
def cntF (n : Nat) (m : MapM) : Nat := ((List.range n).filter fun b => (m b).isSome).length
def cnt (m : MapM) : Nat := cntF 4096 m
theorem cntF_succ (n : Nat) (m : MapM) : cntF (n + 1) m = cntF n m + if (m n).isSome then 1 else 0 := by
 unfold cntF
 rw [List.range_succ, List.filter_append, List.length_append]
 congr 1
 by_cases h : (m n).isSome <;> simp [h]
theorem cntF_le (n : Nat) (m : MapM) : cntF n m ≤ n := by
 unfold cntF
 have := List.length_filter_le (fun b => (m b).isSome) (List.range n)
 simpa using this
theorem cntF_upd (m : MapM) (b : Nat) (v : Option Int) : ∀ n, cntF n (upd m b v) + (if b < n ∧ (m b).isSome then 1 else 0) = cntF n m + (if b < n ∧ v.isSome then 1 else 0)
 | 0 => by simp [cntF]
 | n + 1 => by
  have ih := cntF_upd m b v n
  rw [cntF_succ, cntF_succ]
  by_cases hbn : b = n
  ·subst hbn
   simp only [Nat.lt_irrefl, false_and, if_false, Nat.add_zero, Nat.lt_succ_self, true_and] at ih ⊢
   have e0 : upd m b v b = v := by unfold upd; rw [if_pos rfl]
   rw [e0, ih]; omega
  ·have e : upd m b v n = m n := by unfold upd; rw [if_neg (Ne.symm hbn)]
   rw [e]
   have e2 : (b < n + 1) = (b < n) := by apply propext; omega
   simp only [e2]
   omega
theorem cnt_set {m : MapM} {b : Nat} (c : Int) (hb : b < 4096) : cnt (upd m b (some c)) = cnt m + if (m b).isSome then 0 else 1 := by
 have := cntF_upd m b (some c) 4096
 unfold cnt
 simp only [hb, true_and, Option.isSome_some, if_true] at this
 split <;> simp_all <;> omega
theorem cnt_le (m : MapM) : cnt m ≤ 4096 := cntF_le _ _
end Go.Vol
namespace Go.Vol
open Go Go.RowKit
structure PartM where
 id : Int
 tenant : Int
 src : Int
 m : MapM
structure SpaceM where
 vols : List PartM
 snaps : List PartM
structure ResM where
 sp : Option SpaceM
 id : Int
 e : Int
def tenB (t : Int) : Bool := decide (0 ≤ t) && decide (t < 16)
def blkB (b : Int) : Bool := decide (0 ≤ b) && decide (b < 4096)
def chkB (c : Int) : Bool := decide (0 ≤ c) && decide (c < 2147483648)
def atN (l : List PartM) (id : Int) : Nat := l.findIdx fun p => p.id == id
def freeF : List PartM → Nat → Nat
 | [], k => k
 | p :: r, k => if p.id = (k : Int) then freeF r (k + 1) else k
def free (l : List PartM) : Nat := freeF l 0
def empty : MapM := fun _ => none
namespace SpaceM
def new : SpaceM := ⟨[], []⟩
def delete (S : SpaceM) (v : Int) : ResM :=
 match S.vols[atN S.vols v]? with
 | none => ⟨none, 0, 12⟩
 | some _ => ⟨some { S with vols := S.vols.eraseIdx (atN S.vols v) }, 0, 0⟩
def change (S : SpaceM) (v : Int) (ok : Bool) (f : PartM → PartM) : ResM :=
 match S.vols[atN S.vols v]? with
 | none => ⟨none, 0, 12⟩
 | some p => if ok = true then ⟨some { S with vols := S.vols.set (atN S.vols v) (f p) }, 0, 0⟩ else ⟨none, 0, 1⟩
def map (S : SpaceM) (v b c : Int) : ResM := S.change v (blkB b && chkB c) fun p => { p with m := upd p.m b.toNat (some c) }
def drop (S : SpaceM) (v : Int) : ResM :=
 match S.snaps[atN S.snaps v]? with
 | none => ⟨none, 0, 12⟩
 | some _ => ⟨some { S with snaps := S.snaps.eraseIdx (atN S.snaps v) }, 0, 0⟩
end SpaceM
def Incr : List PartM → Int → Prop
 | [], _ => True
 | p :: r, k => k ≤ p.id ∧ Incr r (p.id + 1)
structure PartM.WF (p : PartM) : Prop where
 ten : 0 ≤ p.tenant ∧ p.tenant < 16
 out : ∀ b, 4096 ≤ b → p.m b = none
 chk : ∀ b c, p.m b = some c → 0 ≤ c ∧ c < 2147483648
structure SpaceM.WF (S : SpaceM) : Prop where
 vols : Incr S.vols 0
 snaps : Incr S.snaps 0
 vlt : ∀ p ∈ S.vols, p.id < 64
 slt : ∀ p ∈ S.snaps, p.id < 256
 vp : ∀ p ∈ S.vols, p.WF
 sp : ∀ p ∈ S.snaps, p.WF
theorem Incr.mono {l : List PartM} {j k : Int} (h : Incr l k) (hj : j ≤ k) : Incr l j := by
 cases l with
 | nil => trivial
 | cons p r => exact ⟨Int.le_trans hj h.1, h.2⟩
theorem Incr.le {l : List PartM} : ∀ {k : Int}, Incr l k → ∀ p ∈ l, k ≤ p.id := by
 induction l with
 | nil => intro k _ p hp; simp at hp
 | cons q r ih =>
  intro k h p hp
  rcases List.mem_cons.1 hp with rfl | hp
  ·exact h.1
  ·have := ih h.2 p hp; have := h.1; omega
theorem Incr.len {l : List PartM} : ∀ {k n : Int}, Incr l k → (∀ p ∈ l, p.id < n) → k ≤ n → (l.length : Int) ≤ n - k := by
 induction l with
 | nil => intro k n _ _ h; simp; omega
 | cons q r ih =>
  intro k n h hn hk
  have h1 := hn q (by simp)
  have := ih h.2 (fun p hp => hn p (by simp [hp])) (by omega)
  have := h.1
  simp; omega
theorem Incr.set {l : List PartM} : ∀ {k : Int} {i : Nat} {p q : PartM}, Incr l k → l[i]? = some p → q.id = p.id → Incr (l.set i q) k := by
 induction l with
 | nil => intro k i p q _ h; simp at h
 | cons a r ih =>
  intro k i p q h hi hq
  cases i with
  | zero => simp at hi; subst hi; exact ⟨by rw [hq]; exact h.1, by rw [hq]; exact h.2⟩
  | succ i => exact ⟨h.1, ih h.2 (by simpa using hi) hq⟩
namespace SpaceM
theorem WF.new : SpaceM.new.WF := ⟨trivial, trivial, by simp [SpaceM.new], by simp [SpaceM.new], by simp [SpaceM.new], by simp [SpaceM.new]⟩
theorem WF.vlen {S : SpaceM} (h : S.WF) : S.vols.length ≤ 64 := by have := h.vols.len h.vlt (by omega); omega
theorem WF.slen {S : SpaceM} (h : S.WF) : S.snaps.length ≤ 256 := by have := h.snaps.len h.slt (by omega); omega
theorem tenB_iff {t : Int} : tenB t = true ↔ 0 ≤ t ∧ t < 16 := by unfold tenB; simp
theorem blkB_iff {t : Int} : blkB t = true ↔ 0 ≤ t ∧ t < 4096 := by unfold blkB; simp
end SpaceM
end Go.Vol
namespace Go.Vol
open Go Go.RowKit
theorem i64_and_nat (a b : Nat) (ha : a < 4611686018427387904) (hb : b < 4611686018427387904) : bits .and .i64 (a : Int) (b : Int) = ((a &&& b : Nat) : Int) := by
 have hx : a &&& b < 2 ^ 62 := Nat.and_lt_two_pow _ (by omega)
 have h1 : (BitVec.ofInt 64 (a : Int)).toNat = a := by
  rw [BitVec.ofInt_natCast, BitVec.toNat_ofNat]; exact Nat.mod_eq_of_lt (by omega)
 have h2 : (BitVec.ofInt 64 (b : Int)).toNat = b := by
  rw [BitVec.ofInt_natCast, BitVec.toNat_ofNat]; exact Nat.mod_eq_of_lt (by omega)
 show IntKind.i64.wrap ((BitVec.ofInt 64 (a : Int) &&& BitVec.ofInt 64 (b : Int)).toNat : Int) = _
 rw [BitVec.toNat_and, h1, h2]
 exact IntWalk.i64_in _ (by omega)
theorem and15 (a : Nat) (ha : a < 4096) : bits .and .i64 (a : Int) 15 = ((a % 16 : Nat) : Int) := by
 have := i64_and_nat a 15 (by omega) (by omega)
 rw [nat_mask4] at this
 exact this
theorem bit1 (x i : Nat) (hx : x < 65536) : bits .and .u16 ((x : Int) / 2 ^ i) 1 = if x.testBit i then 1 else 0 := by
 have ec : ((x : Int) / 2 ^ i) = ((x / 2 ^ i : Nat) : Int) := by simp
 rw [ec]
 have hle : x / 2 ^ i ≤ x := Nat.div_le_self _ _
 have := u16_and_nat (x / 2 ^ i) 1 (by omega) (by omega)
 rw [nat_mask1] at this
 rw [show (1 : Int) = ((1 : Nat) : Int) from rfl, this, Nat.testBit_eq_decide_div_mod_eq]
 have h2 := Nat.mod_two_eq_zero_or_one (x / 2 ^ i)
 rcases h2 with h | h <;> simp [h]
theorem or_shl (x s : Nat) (hx : x < 65536) (hs : s < 16) : bits .or .u16 (x : Int) ((1 <<< s : Nat) : Int) = ((x ||| (1 <<< s) : Nat) : Int) := by
 have : 1 <<< s < 65536 := by rw [Nat.one_shiftLeft]; exact Nat.lt_of_lt_of_le (Nat.pow_lt_pow_right (by omega) hs) (by omega)
 exact u16_or_nat x _ hx this
end Go.Vol
namespace Go.Proofs.YteikbikopgabjaaGreatDoor
open Go.RowKit Go.Vol
abbrev TNode : TypeId := 212
abbrev TTree : TypeId := 112
theorem blockOK_any (n : Int) (w : World) : Calls Tryz.prog 81 #[.int .i64 n] w fun e w' => e = .returned (.bool (blkB n)) ∧ w = w' := by
 unfold blkB
 by_cases h0 : 0 ≤ n
 ·by_cases h1 : n < 4096
  ·go_enter Tryz.func81, Tryz.ntmps81
   go_wp2
   go_ret
   simp [h0, h1]
  ·have h1d : decide (n < 4096) = false := decide_eq_false h1
   go_enter Tryz.func81, Tryz.ntmps81
   go_wp2
   go_ret
   simp
 ·have h0d : decide (0 ≤ n) = false := decide_eq_false h0
  go_enter Tryz.func81, Tryz.ntmps81
  go_wp2
  go_ret
  simp
theorem valid_any (n : Int) (w : World) : Calls Tryz.prog 107 #[.int .i64 n] w fun e w' => e = .returned (.bool (blkB n)) ∧ w = w' := by
 unfold blkB
 by_cases h0 : 0 ≤ n
 ·by_cases h1 : n < 4096
  ·go_enter Tryz.func107, Tryz.ntmps107
   go_wp2
   go_ret
   simp [h0, h1]
  ·have h1d : decide (n < 4096) = false := decide_eq_false h1
   go_enter Tryz.func107, Tryz.ntmps107
   go_wp2
   go_ret
   simp
 ·have h0d : decide (0 ≤ n) = false := decide_eq_false h0
  go_enter Tryz.func107, Tryz.ntmps107
  go_wp2
  go_ret
  simp
theorem tenantOK_any (n : Int) (w : World) : Calls Tryz.prog 80 #[.int .i64 n] w fun e w' => e = .returned (.bool (tenB n)) ∧ w = w' := by
 unfold tenB
 by_cases h0 : 0 ≤ n
 ·by_cases h1 : n < 16
  ·go_enter Tryz.func80, Tryz.ntmps80
   go_wp2
   go_ret
   simp [h0, h1]
  ·have h1d : decide (n < 16) = false := decide_eq_false h1
   go_enter Tryz.func80, Tryz.ntmps80
   go_wp2
   go_ret
   simp
 ·have h0d : decide (0 ≤ n) = false := decide_eq_false h0
  go_enter Tryz.func80, Tryz.ntmps80
  go_wp2
  go_ret
  simp
def slotN (L b : Nat) : Nat := b / 16 ^ L % 16
theorem slotN_lt (L b : Nat) : slotN L b < 16 := Nat.mod_lt _ (by omega)
theorem slot_any (L b : Nat) (hL : L ≤ 2) (hb : b < 4096) (w : World) : Calls Tryz.prog 136 #[.int .i64 (L : Int), .int .i64 (b : Int)] w fun e w' => e = .returned (.int .i64 (slotN L b : Int)) ∧ w = w' := by
 unfold slotN
 match L, hL with
 | 0, _ =>
  have h0 := and15 b hb
  have H0 := Lib.hid h0
  clear h0
  go_enter Tryz.func136, Tryz.ntmps136
  go_wp2
  go_ret
  exact ⟨by rw [H0.out]; simp, rfl⟩
 | 1, _ =>
  have h0 := and15 (b / 16) (by omega)
  have H0 := Lib.hid h0
  clear h0
  go_enter Tryz.func136, Tryz.ntmps136
  go_wp2
  go_ret
  exact ⟨by rw [← H0.out]; simp, rfl⟩
 | 2, _ =>
  have h0 := and15 (b / 256) (by omega)
  have H0 := Lib.hid h0
  clear h0
  go_enter Tryz.func136, Tryz.ntmps136
  go_wp2
  go_ret
  exact ⟨by rw [← H0.out]; simp, rfl⟩
end Go.Proofs.YteikbikopgabjaaGreatDoor
namespace Go.Proofs.YteikbikopgabjaaGreatDoor
open Go.RowKit Go.Vol
theorem nodeC_at {w : World} {b h : Nat} {kids ch : List Value} {T : TypeId} (hw : w.heap[b]? = some (.cells (nodeC h kids ch) T (0, 0))) (hk : kids.length = 16) :
  w.cell? ⟨b, 0, none⟩ = some (.int .u16 (h : Int)) ∧ (∀ s k, kids[s]? = some k → w.cell? ⟨b, 1 + s, none⟩ = some k) ∧ (∀ s c, ch[s]? = some c → w.cell? ⟨b, 17 + s, none⟩ = some c) := by
 have hc : ∀ o, w.cell? ⟨b, o, none⟩ = (nodeC h kids ch)[o]? := by intro o; simp [World.cell?, hw]
 refine ⟨by rw [hc]; rfl, fun s k hs => ?_, fun s c hs => ?_⟩
 ·rw [hc]
  have hlt := (List.getElem?_eq_some_iff.1 hs).1
  unfold nodeC
  rw [List.getElem?_toArray, Nat.add_comm, List.getElem?_cons_succ, List.getElem?_append_left hlt]; exact hs
 ·rw [hc]
  unfold nodeC
  rw [List.getElem?_toArray, show 17 + s = (16 + s) + 1 by omega, List.getElem?_cons_succ, List.getElem?_append_right (by omega), hk, Nat.add_sub_cancel_left]; exact hs
theorem mod_split (b L : Nat) : b % 16 ^ (L + 2) = b / 16 ^ (L + 1) % 16 * 16 ^ (L + 1) + b % 16 ^ (L + 1) := by
 rw [Nat.pow_succ 16 (L + 1), Nat.mod_mul, Nat.add_comm, Nat.mul_comm]
theorem _root_.Go.RowKit.Below.drewN {B : Nat} {a w : World} (h : Below B a w) (n : Nat) : Below B a (w.drewN n) := ⟨h.os, h.tape, h.output, h.size, h.block⟩
structure GetAt (w : World) (m : MapM) (b : Nat) (n l : Value) (wr : World) : Prop where
 st : ∃ (L : Nat) (m' : MapM), L ≤ 2 ∧ l = .int .i64 (L : Int) ∧ NodeAt TNode wr L n m' ∧ m' (b % 16 ^ (L + 1)) = m b ∧ Below w.heap.size w wr
set_option maxHeartbeats 1000000 in
theorem tget_any (r nv : Value) (m : MapM) (b : Nat) (hb : b < 4096) (w : World) (hr : NodeAt TNode w 2 r m) :
  Calls Tryz.prog 106 #[.agg #[r, nv], .int .i64 (b : Int)] w fun e w' => e = .returned (.tuple #[.int .i64 ((m b).getD 0), .bool (m b).isSome]) ∧ Below w.heap.size w w' := by
 obtain ⟨q, rfl⟩ := hr.ptr
 have hblk : blkB (b : Int) = true := SpaceM.blkB_iff.2 ⟨by omega, by omega⟩
 have hv := valid_any (b : Int) (w.alloc (.cells #[.pointer q, nv] TTree))
 rw [hblk] at hv
 have hb1 : Below w.heap.size w (w.alloc (.cells #[.pointer q, nv] TTree)) := (Below.refl _ _).alloc (Nat.le_refl _) _
 have hst : GetAt w m b (.pointer q) (.int .i64 2) (w.alloc (.cells #[.pointer q, nv] TTree)) := ⟨⟨2, m, Nat.le_refl _, rfl, hr.below hb1, by rw [Nat.mod_eq_of_lt (by omega)], hb1⟩⟩
 have HST := Lib.hid hst
 have HV := Lib.hid hv
 clear hst hv hb1 hblk hr
 go_enter Tryz.func106, Tryz.ntmps106
 go_wp2_with (go_at_call 107; refine HV.out.mono ?_; rintro e w' ⟨rfl, rfl⟩)
 clear HV
 go_loopw [6, 7] (fun n l wr => GetAt w m b n l wr) (fun _ l _ => (intOf l).toNat)
 case atStart => exact HST.out
 case round =>
  clear HST
  obtain ⟨L, m', hL, rfl, hn, hm, hbw⟩ := hrel.st
  clear hrel
  have HM := Lib.hid (And.intro hm hbw)
  clear hm hbw
  have hsl := slot_any L b hL hb wr
  have HSL := Lib.hid hsl
  have hs16 := slotN_lt L b
  clear hsl
  obtain ⟨q', rfl⟩ := hn.ptr
  cases q' with
  | none =>
   have hnil := anyB_false.1 hn.nil (b % 16 ^ (L + 1)) (Nat.mod_lt _ (pow16_pos _))
   rw [HM.out.1] at hnil
   have HN := Lib.hid hnil
   clear hnil hn HSL
   go_wp2
   go_ret2
   exact ⟨by rw [HN.out]; rfl, HM.out.2⟩
  | some ad =>
   match L, hL with
   | 0, hL =>
    obtain ⟨b0, rfl, _, _, _⟩ := NodeOk.block hn
    obtain ⟨hh, _, _⟩ := NodeOk.leaf hn
    obtain ⟨k0, _, k2⟩ := nodeC_at hh (by simp [nils])
    have k17 := k2 (slotN 0 b) _ (chs_at m' hs16)
    have hbit := bit1 (has0 m') (slotN 0 b) (has0_lt m')
    rw [has0_bit m' hs16] at hbit
    have hmm : m' (slotN 0 b) = m b := by rw [← HM.out.1]; unfold slotN; congr 1; simp
    rw [hmm] at hbit k17
    have HB := Lib.hid hbit
    have hlt := has0_lt m'
    generalize has0 m' = hs at k0 HB hlt
    generalize slotN 0 b = sl at *
    clear hn hbit k2 hmm hh hL
    go_upto_region 9 with (go_at_call 136; refine HSL.out.mono ?_; rintro e w' ⟨rfl, rfl⟩)
    go_quiet (fail)
    go_wp2
    go_ret2
    exact ⟨by rw [HB.out]; cases m b <;> rfl, HM.out.2.drewN _⟩
   | L + 1, hL =>
    obtain ⟨b0, rfl, _, _, _⟩ := NodeOk.block hn
    obtain ⟨kids, hlen, hh, hkid, _, _⟩ := NodeOk.inner hn
    obtain ⟨k0, k1, _⟩ := nodeC_at hh hlen
    obtain ⟨kd, hkd⟩ : ∃ kd, kids[slotN (L + 1) b]? = some kd := ⟨_, List.getElem?_eq_getElem (by rw [hlen]; exact hs16)⟩
    have k17 := k1 _ _ hkd
    have hkn := hkid _ _ hkd
    have hmm : sub m' L (slotN (L + 1) b) (b % 16 ^ (L + 1)) = m b := by
     rw [← HM.out.1, mod_split]
     unfold sub slotN
     rw [if_pos (Nat.mod_lt _ (pow16_pos _))]
    obtain ⟨kq, rfl⟩ := NodeOk.ptr hkn
    have HN := Lib.hid (And.intro hkn hmm)
    have hL2 : (L : Int) ≤ 1 := by omega
    generalize slotN (L + 1) b = sl at *
    clear hn k1 hmm hh hkid hkn k0 hkd hlen
    have hL0 : (((L : Int) + 1) == 0) = false := by simp; omega
    go_wp2_with (go_at_call 136; refine HSL.out.mono ?_; rintro e w' ⟨rfl, rfl⟩)
    refine ⟨⟨⟨L, _, by omega, rfl, HN.out.1, HN.out.2, HM.out.2⟩⟩, ?_⟩
    simp only [intOf]; omega
end Go.Proofs.YteikbikopgabjaaGreatDoor
