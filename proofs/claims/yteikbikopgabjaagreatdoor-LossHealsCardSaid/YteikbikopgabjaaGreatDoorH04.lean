
/- Part 4 of a proof; the last part says what is proved. -/
namespace Go.GF
structure Lin (t : Nat → Nat) : Prop where
 xor : ∀ a b, t (a ^^^ b) = t a ^^^ t b
theorem Lin.zero {t : Nat → Nat} (h : Lin t) : t 0 = 0 := by
 have := h.xor 0 0
 rw [Nat.xor_self, Nat.xor_self] at this
 exact this
def bitM (b a : Nat) : Nat := if b % 2 = 1 then a else 0
theorem bitM_zero (b : Nat) : bitM b 0 = 0 := by unfold bitM; split <;> rfl
theorem bitM_xor (b a c : Nat) : bitM b (a ^^^ c) = bitM b a ^^^ bitM b c := by unfold bitM; split <;> simp
theorem bitM_xorL (b c a : Nat) : bitM (b ^^^ c) a = bitM b a ^^^ bitM c a := by
 unfold bitM
 have e : decide ((b ^^^ c) % 2 = 1) = (decide (b % 2 = 1)).xor (decide (c % 2 = 1)) := by rw [← Nat.testBit_zero, ← Nat.testBit_zero, ← Nat.testBit_zero, Nat.testBit_xor]
 by_cases hb : b % 2 = 1 <;> by_cases hc : c % 2 = 1 <;> simp_all
theorem Lin.bitM {t : Nat → Nat} (h : Lin t) (b a : Nat) : t (bitM b a) = GF.bitM b (t a) := by unfold GF.bitM; split <;> simp [h.zero]
def evN (t : Nat → Nat) (a : Nat) : Nat → Nat → Nat
 | 0, _ => 0
 | n + 1, p => t (evN t a n (p / 2)) ^^^ bitM p a
def ev (t : Nat → Nat) (a p : Nat) : Nat := evN t a p p
theorem evN_zero {t : Nat → Nat} (ht : Lin t) (a : Nat) : ∀ n, evN t a n 0 = 0
 | 0 => rfl
 | n + 1 => by unfold evN; rw [Nat.zero_div, evN_zero ht a n, ht.zero]; simp [bitM]
theorem evN_fuel {t : Nat → Nat} (ht : Lin t) (a : Nat) : ∀ {n k p : Nat}, p < 2 ^ n → p < 2 ^ k → evN t a n p = evN t a k p
 | 0, k, p, h, _ => by
  obtain rfl : p = 0 := by simp at h; exact h
  rw [evN_zero ht, evN_zero ht]
 | n + 1, 0, p, _, h => by
  obtain rfl : p = 0 := by simp at h; exact h
  rw [evN_zero ht, evN_zero ht]
 | n + 1, k + 1, p, h, h' => by
  unfold evN
  rw [evN_fuel ht a (n := n) (k := k) (p := p / 2) (by rw [Nat.pow_succ] at h; omega) (by rw [Nat.pow_succ] at h'; omega)]
theorem ev_fuel {t : Nat → Nat} (ht : Lin t) (a : Nat) {n p : Nat} (h : p < 2 ^ n) : ev t a p = evN t a n p := evN_fuel ht a (Nat.lt_two_pow_self) h
theorem ev_zero {t : Nat → Nat} (ht : Lin t) (a : Nat) : ev t a 0 = 0 := evN_zero ht a _
theorem ev_eq {t : Nat → Nat} (ht : Lin t) (a p : Nat) : ev t a p = t (ev t a (p / 2)) ^^^ bitM p a := by
 have h : p < 2 ^ p := Nat.lt_two_pow_self
 rw [ev_fuel ht a (n := p + 1) (by rw [Nat.pow_succ]; omega), ev_fuel ht a (n := p) (p := p / 2) (by omega)]
 rfl
theorem ev_0l {t : Nat → Nat} (ht : Lin t) (p : Nat) : ev t 0 p = 0 := by
 induction p using Nat.strongRecOn with
 | _ p ih =>
  rw [ev_eq ht]
  by_cases h : p = 0
  ·subst h; rw [ev_zero ht]; simp [ht.zero, bitM_zero]
  ·rw [ih (p / 2) (by omega), ht.zero, bitM_zero]; rfl
theorem ev_1r {t : Nat → Nat} (ht : Lin t) (a : Nat) : ev t a 1 = a := by
 rw [ev_eq ht, show 1 / 2 = 0 from rfl, ev_zero ht, ht.zero]; simp [bitM]
theorem xor4 (a b c d : Nat) : (a ^^^ b) ^^^ (c ^^^ d) = (a ^^^ c) ^^^ (b ^^^ d) := by
 rw [Nat.xor_assoc, ← Nat.xor_assoc b, Nat.xor_comm b c, Nat.xor_assoc c, ← Nat.xor_assoc a]
theorem ev_xorL {t : Nat → Nat} (ht : Lin t) (a b p : Nat) : ev t (a ^^^ b) p = ev t a p ^^^ ev t b p := by
 induction p using Nat.strongRecOn with
 | _ p ih =>
  by_cases h : p = 0
  ·subst h; simp [ev_zero ht]
  ·rw [ev_eq ht, ev_eq ht a, ev_eq ht b, ih (p / 2) (by omega), ht.xor, bitM_xor, xor4]
theorem ev_xorR {t : Nat → Nat} (ht : Lin t) (a p : Nat) : ∀ q, ev t a (p ^^^ q) = ev t a p ^^^ ev t a q := by
 induction p using Nat.strongRecOn with
 | _ p ih =>
  intro q
  by_cases h : p = 0
  ·subst h; simp [ev_zero ht]
  ·rw [ev_eq ht, ev_eq ht a p, ev_eq ht a q, Nat.xor_div_two, ih (p / 2) (by omega), ht.xor, bitM_xorL, xor4]
theorem ev_t {t : Nat → Nat} (ht : Lin t) (a p : Nat) : ev t (t a) p = t (ev t a p) := by
 induction p using Nat.strongRecOn with
 | _ p ih =>
  by_cases h : p = 0
  ·subst h; simp [ev_zero ht, ht.zero]
  ·rw [ev_eq ht, ev_eq ht a, ih (p / 2) (by omega), ht.xor, ht.bitM]
theorem ev_dbl {t : Nat → Nat} (ht : Lin t) (a p : Nat) : ev t a (2 * p) = t (ev t a p) := by
 rw [ev_eq ht, show 2 * p / 2 = p by omega]
 simp [bitM]
def iter (t : Nat → Nat) : Nat → Nat → Nat
 | 0, a => a
 | n + 1, a => t (iter t n a)
theorem iter_zero {t : Nat → Nat} (ht : Lin t) : ∀ n, iter t n 0 = 0
 | 0 => rfl
 | n + 1 => by unfold iter; rw [iter_zero ht n, ht.zero]
theorem ev_shl {t : Nat → Nat} (ht : Lin t) (a p : Nat) : ∀ n, ev t a (p <<< n) = iter t n (ev t a p)
 | 0 => rfl
 | n + 1 => by
  rw [Nat.shiftLeft_succ, ev_dbl ht, ev_shl ht a p n]; rfl
theorem ev_comm {t : Nat → Nat} (ht : Lin t) (a p q : Nat) : ev t (ev t a p) q = ev t (ev t a q) p := by
 induction p using Nat.strongRecOn with
 | _ p ih =>
  by_cases h : p = 0
  ·subst h; rw [ev_zero ht, ev_zero ht, ev_0l ht]
  ·rw [ev_eq ht a p, ev_xorL ht, ev_t ht, ih (p / 2) (by omega)]
   rw [ev_eq ht (ev t a q) p]
   congr 1
   unfold bitM
   split
   ·rfl
   ·exact ev_0l ht q
theorem lin_dbl : Lin (2 * ·) := ⟨fun a b => by
 have h := Nat.shiftLeft_xor_distrib (a := a) (b := b) (i := 1)
 simp only [Nat.shiftLeft_eq, Nat.pow_one] at h
 rw [Nat.mul_comm 2, Nat.mul_comm 2, Nat.mul_comm 2]
 exact h⟩
def cm (d q : Nat) : Nat := ev (2 * ·) d q
theorem cm_one (p : Nat) : cm 1 p = p := by
 unfold cm
 induction p using Nat.strongRecOn with
 | _ p ih =>
  by_cases h : p = 0
  ·subst h; exact ev_zero lin_dbl 1
  ·rw [ev_eq lin_dbl, ih (p / 2) (by omega)]
   unfold bitM
   apply Nat.eq_of_testBit_eq
   intro i
   rw [Nat.testBit_xor]
   cases i with
   | zero => simp [Nat.testBit_zero]; rcases Nat.mod_two_eq_zero_or_one p with h | h <;> simp [h]
   | succ i =>
    rw [Nat.testBit_succ, Nat.testBit_succ, Nat.testBit_succ]
    rw [show 2 * (p / 2) / 2 = p / 2 by omega]
    split <;> simp
theorem cm_comm (d q : Nat) : cm d q = cm q d := by
 have h := ev_comm lin_dbl 1 d q
 have e := fun p => cm_one p
 unfold cm at e ⊢
 rw [e, e] at h
 exact h
theorem cm_xorR (d p q : Nat) : cm d (p ^^^ q) = cm d p ^^^ cm d q := ev_xorR lin_dbl d p q
theorem cm_shl (d q n : Nat) : cm d (q <<< n) = (cm d q) <<< n := by
 unfold cm
 rw [ev_shl lin_dbl]
 induction n with
 | zero => rfl
 | succ n ih => unfold iter; rw [ih, Nat.shiftLeft_succ]
def dvd (d p : Nat) : Prop := ∃ q, p = cm d q
theorem dvd_xor {d p q : Nat} (h : dvd d p) (k : dvd d q) : dvd d (p ^^^ q) := by
 obtain ⟨a, rfl⟩ := h; obtain ⟨b, rfl⟩ := k
 exact ⟨a ^^^ b, (cm_xorR _ _ _).symm⟩
theorem dvd_shl {d p : Nat} (h : dvd d p) (n : Nat) : dvd d (p <<< n) := by
 obtain ⟨a, rfl⟩ := h
 exact ⟨a <<< n, (cm_shl _ _ _).symm⟩
theorem dvd_refl (d : Nat) : dvd d d := ⟨1, (ev_1r lin_dbl d).symm⟩
theorem dvd_zero (d : Nat) : dvd d 0 := ⟨0, (ev_zero lin_dbl d).symm⟩
def len (n : Nat) : Nat := if n = 0 then 0 else n.log2 + 1
theorem len_zero : len 0 = 0 := rfl
theorem lt_len (n : Nat) : n < 2 ^ len n := by
 unfold len
 split
 ·rename_i h; subst h; decide
 ·exact Nat.lt_log2_self
theorem len_le {n k : Nat} : len n ≤ k ↔ n < 2 ^ k := by
 unfold len
 split
 ·rename_i h; subst h; simp [Nat.pow_pos]
 ·rename_i h
  rw [Nat.add_one_le_iff]
  exact Nat.log2_lt h
theorem len_pos {n : Nat} : 0 < len n ↔ n ≠ 0 := by
 unfold len; split <;> simp_all
theorem le_len {n k : Nat} : k < len n ↔ 2 ^ k ≤ n := by
 have := len_le (n := n) (k := k)
 omega
theorem len_eq {n k : Nat} (h1 : 2 ^ k ≤ n) (h2 : n < 2 ^ (k + 1)) : len n = k + 1 := by
 have a := le_len.2 h1
 have b := len_le.2 h2
 omega
theorem len_bound {n : Nat} (h : n ≠ 0) : ∃ k, len n = k + 1 ∧ 2 ^ k ≤ n ∧ n < 2 ^ (k + 1) := by
 obtain ⟨k, hk⟩ : ∃ k, len n = k + 1 := ⟨len n - 1, by have := len_pos.2 h; omega⟩
 exact ⟨k, hk, le_len.1 (by omega), by rw [← hk]; exact lt_len n⟩
theorem top_bit {n k : Nat} (h1 : 2 ^ k ≤ n) (h2 : n < 2 ^ (k + 1)) : n.testBit k = true := by
 rw [Nat.pow_succ] at h2
 rw [Nat.testBit_eq_decide_div_mod_eq]
 have : n / 2 ^ k = 1 := by
  apply Nat.div_eq_of_lt_le
  ·omega
  ·omega
 rw [this]; rfl
theorem lt_of_bits {n k : Nat} (h : ∀ i, k ≤ i → n.testBit i = false) : n < 2 ^ k := Nat.lt_pow_two_of_testBit n fun i hi => h i hi
theorem high_bit {n k i : Nat} (h : n < 2 ^ k) (hi : k ≤ i) : n.testBit i = false := Nat.testBit_lt_two_pow (Nat.lt_of_lt_of_le h (Nat.pow_le_pow_right (by omega) hi))
theorem xor_top {a b k : Nat} (ha1 : 2 ^ k ≤ a) (ha2 : a < 2 ^ (k + 1)) (hb1 : 2 ^ k ≤ b) (hb2 : b < 2 ^ (k + 1)) : a ^^^ b < 2 ^ k := by
 apply lt_of_bits
 intro i hi
 rw [Nat.testBit_xor]
 by_cases h : i = k
 ·subst h; rw [top_bit ha1 ha2, top_bit hb1 hb2]; rfl
 ·rw [high_bit ha2 (by omega), high_bit hb2 (by omega)]; rfl
theorem xor_keep {a b k : Nat} (ha1 : 2 ^ k ≤ a) (ha2 : a < 2 ^ (k + 1)) (hb : b < 2 ^ k) : 2 ^ k ≤ a ^^^ b ∧ a ^^^ b < 2 ^ (k + 1) := by
 have h2 : a ^^^ b < 2 ^ (k + 1) := Nat.xor_lt_two_pow ha2 (by rw [Nat.pow_succ]; omega)
 refine ⟨?_, h2⟩
 have : (a ^^^ b).testBit k = true := by rw [Nat.testBit_xor, top_bit ha1 ha2, high_bit hb (Nat.le_refl _)]; rfl
 exact Nat.ge_two_pow_of_testBit this
theorem shl_bounds {n k s : Nat} (h1 : 2 ^ k ≤ n) (h2 : n < 2 ^ (k + 1)) : 2 ^ (k + s) ≤ n <<< s ∧ n <<< s < 2 ^ (k + s + 1) := by
 rw [Nat.shiftLeft_eq, Nat.pow_add, show k + s + 1 = (k + 1) + s by omega, Nat.pow_add]
 exact ⟨Nat.mul_le_mul_right _ h1, Nat.mul_lt_mul_of_pos_right h2 (Nat.pow_pos (by omega))⟩
theorem len_xor (a b : Nat) : len (a ^^^ b) ≤ max (len a) (len b) := by
 rw [len_le]
 exact Nat.xor_lt_two_pow (Nat.lt_of_lt_of_le (lt_len a) (Nat.pow_le_pow_right (by omega) (Nat.le_max_left _ _))) (Nat.lt_of_lt_of_le (lt_len b) (Nat.pow_le_pow_right (by omega) (Nat.le_max_right _ _)))
theorem len_shl (n s : Nat) : len (n <<< s) ≤ len n + s := by
 rw [len_le, Nat.shiftLeft_eq, Nat.pow_add]
 exact Nat.mul_lt_mul_of_pos_right (lt_len n) (Nat.pow_pos (by omega))
theorem len_step {u v : Nat} (hv : v ≠ 0) (hle : len v ≤ len u) : len (u ^^^ (v <<< (len u - len v))) < len u := by
 obtain ⟨k, hk, k1, k2⟩ := len_bound hv
 have hu : u ≠ 0 := by
  intro h; subst h; rw [len_zero] at hle; omega
 obtain ⟨j, hj, j1, j2⟩ := len_bound hu
 rw [hj, hk] at hle
 rw [hj, hk]
 have hkj : k + (j + 1 - (k + 1)) = j := by omega
 have := shl_bounds (s := j + 1 - (k + 1)) k1 k2
 rw [hkj] at this
 have h := xor_top j1 j2 this.1 this.2
 have := len_le.2 h
 omega
theorem cm_len {d : Nat} (hd : d ≠ 0) : ∀ {q : Nat}, q ≠ 0 → len (cm d q) + 1 = len d + len q := by
 intro q
 obtain ⟨k, hk, k1, k2⟩ := len_bound hd
 induction q using Nat.strongRecOn with
 | _ q ih =>
  intro hq
  unfold cm at ih ⊢
  rw [ev_eq lin_dbl]
  by_cases h : q / 2 = 0
  ·obtain rfl : q = 1 := by omega
   rw [h, ev_zero lin_dbl, show len 1 = 1 from rfl]
   simp [bitM]
  ·have e := ih (q / 2) (by omega) h
   obtain ⟨j, hj, j1, j2⟩ := len_bound h
   have hq2 : len q = j + 2 := by
    rw [Nat.pow_succ] at j2
    exact len_eq (by rw [Nat.pow_succ]; omega) (by rw [Nat.pow_succ, Nat.pow_succ]; omega)
   rw [hj, hk] at e
   have hne : ev (2 * ·) d (q / 2) ≠ 0 := by
    intro h0; rw [h0, len_zero] at e; omega
   obtain ⟨i, hi, i1, i2⟩ := len_bound hne
   rw [hi] at e
   obtain rfl : i = k + j := by omega
   have hb : bitM q d < 2 ^ (k + j + 1) := by
    unfold bitM
    split
    ·exact Nat.lt_of_lt_of_le k2 (Nat.pow_le_pow_right (by omega) (by omega))
    ·exact Nat.pow_pos (by omega)
   have h3 := xor_keep (a := 2 * ev (2 * ·) d (q / 2)) (k := k + j + 1) (by rw [Nat.pow_succ]; omega) (by rw [Nat.pow_succ]; omega) hb
   rw [len_eq h3.1 h3.2, hq2, hk]
   omega
theorem dvd_len {d p : Nat} (h : dvd d p) (hp : p ≠ 0) : len d ≤ len p := by
 obtain ⟨q, rfl⟩ := h
 have hd : d ≠ 0 := by
  intro h; subst h; exact hp (ev_0l lin_dbl q)
 have hq : q ≠ 0 := by
  intro h; subst h; exact hp (ev_zero lin_dbl d)
 have := cm_len hd hq
 have := len_pos.2 hq
 omega
def pm (d : Nat) : Nat → Nat → Nat
 | 0, p => p
 | i + 1, p => if len p < len d then p else pm d i (p ^^^ (d <<< (len p - len d)))
theorem dvd_pm {d : Nat} : ∀ {i p : Nat}, dvd d p → dvd d (pm d i p)
 | 0, _, h => h
 | i + 1, p, h => by
  unfold pm
  split
  ·exact h
  ·exact dvd_pm (dvd_xor h (dvd_shl (dvd_refl d) _))
theorem not_dvd_of {d p i : Nat} (h0 : pm d i p ≠ 0) (h1 : len (pm d i p) < len d) : ¬ dvd d p := fun h => by
 have := dvd_len (dvd_pm (i := i) h) h0
 omega
def Irr (P : Nat) : Prop := ∀ d, dvd d P → d = 1 ∨ len d = len P
def irrB (P i : Nat) : Bool := (List.range (2 ^ (len P / 2 + 1))).all fun d => decide (d ≤ 1) || (decide (pm d i P ≠ 0) && decide (len (pm d i P) < len d))
theorem irr_of {P i : Nat} (hP : P ≠ 0) (h : irrB P i = true) : Irr P := by
 have key : ∀ d, d ≤ 1 ∨ 2 ^ (len P / 2 + 1) ≤ d ∨ ¬ dvd d P := by
  intro d
  by_cases hd : d < 2 ^ (len P / 2 + 1)
  ·have := List.all_eq_true.1 h d (List.mem_range.2 hd)
   simp only [Bool.or_eq_true, decide_eq_true_eq, Bool.and_eq_true] at this
   rcases this with h | ⟨h1, h2⟩
   ·exact .inl h
   ·exact .inr (.inr (not_dvd_of h1 h2))
  ·exact .inr (.inl (by omega))
 intro d hd
 obtain ⟨q, hq⟩ := hd
 have hd0 : d ≠ 0 := by
  intro h; subst h; exact hP (hq.trans (ev_0l lin_dbl q))
 have hq0 : q ≠ 0 := by
  intro h; subst h; exact hP (hq.trans (ev_zero lin_dbl d))
 have hl := cm_len hd0 hq0
 rw [← hq] at hl
 rcases key d with h1 | h1 | h1
 ·left; omega
 ·rcases key q with h2 | h2 | h2
  ·obtain rfl : q = 1 := by omega
   right
   have : len 1 = 1 := rfl
   omega
  ·have a := le_len.2 h1
   have b := le_len.2 h2
   omega
  ·exact absurd ⟨d, by rw [cm_comm]; exact hq⟩ h2
 ·exact absurd ⟨q, hq⟩ h1
end Go.GF
namespace Go.GF
def xt (m P a : Nat) : Nat := if (2 * a).testBit m = true then (2 * a) ^^^ P else 2 * a
theorem lin_xt (m P : Nat) : Lin (xt m P) := ⟨fun a b => by
 unfold xt
 have h : 2 * (a ^^^ b) = 2 * a ^^^ 2 * b := lin_dbl.xor a b
 rw [h, Nat.testBit_xor]
 cases (2 * a).testBit m <;> cases (2 * b).testBit m <;> simp
 ·rw [← Nat.xor_assoc]
 ·rw [Nat.xor_assoc, Nat.xor_assoc, Nat.xor_comm P]
 ·rw [xor4, Nat.xor_self, Nat.xor_zero]⟩
structure Fld (m P : Nat) : Prop where
 pos : 1 ≤ m
 lo : 2 ^ m ≤ P
 hi : P < 2 ^ (m + 1)
 irr : Irr P
abbrev evX (m P a p : Nat) : Nat := ev (xt m P) a p
def red (m P p : Nat) : Nat := evX m P 1 p
def mul (m P a b : Nat) : Nat := evX m P a b
section
variable {m P : Nat}
theorem xt_lt (hF : Fld m P) {a : Nat} (h : a < 2 ^ m) : xt m P a < 2 ^ m := by
 unfold xt
 have h2 : 2 * a < 2 ^ (m + 1) := by rw [Nat.pow_succ]; omega
 split
 ·rename_i h1
  exact xor_top (Nat.ge_two_pow_of_testBit h1) h2 hF.lo hF.hi
 ·rename_i h1
  by_cases h3 : 2 * a < 2 ^ m
  ·exact h3
  ·exact absurd (top_bit (by omega) h2) h1
theorem xt_if {a : Nat} (h : a < 2 ^ m) : xt m P a = if 2 ^ m ≤ 2 * a then (2 * a) ^^^ P else 2 * a := by
 unfold xt
 have h2 : 2 * a < 2 ^ (m + 1) := by rw [Nat.pow_succ]; omega
 by_cases h1 : 2 ^ m ≤ 2 * a
 ·rw [if_pos h1, if_pos (top_bit h1 h2)]
 ·rw [if_neg h1, if_neg (by rw [high_bit (Nat.lt_of_not_le h1) (Nat.le_refl _)]; simp)]
theorem ev_lt (hF : Fld m P) {a : Nat} (h : a < 2 ^ m) (p : Nat) : evX m P a p < 2 ^ m := by
 induction p using Nat.strongRecOn with
 | _ p ih =>
  by_cases h0 : p = 0
  ·subst h0; rw [evX, ev_zero (lin_xt m P)]; exact Nat.pow_pos (by omega)
  ·rw [evX, ev_eq (lin_xt m P)]
   refine Nat.xor_lt_two_pow (xt_lt hF (ih (p / 2) (by omega))) ?_
   unfold bitM
   split
   ·exact h
   ·exact Nat.pow_pos (by omega)
theorem one_lt (hF : Fld m P) : 1 < 2 ^ m := by
 have := Nat.pow_le_pow_right (n := 2) (by omega) hF.pos
 omega
theorem red_lt (hF : Fld m P) (p : Nat) : red m P p < 2 ^ m := ev_lt hF (one_lt hF) p
theorem red_zero : red m P 0 = 0 := ev_zero (lin_xt m P) 1
theorem red_xor (p q : Nat) : red m P (p ^^^ q) = red m P p ^^^ red m P q := ev_xorR (lin_xt m P) 1 p q
theorem red_small {p : Nat} (h : p < 2 ^ m) : red m P p = p := by
 induction p using Nat.strongRecOn with
 | _ p ih =>
  by_cases h0 : p = 0
  ·subst h0; exact red_zero
  ·unfold red evX at *
   rw [ev_eq (lin_xt m P), ih (p / 2) (by omega) (by omega), xt_if (by omega), if_neg (by omega)]
   have := ev_eq lin_dbl 1 p
   have e := cm_one p
   have e2 := cm_one (p / 2)
   unfold cm at e e2
   rw [e, e2] at this
   exact this.symm
theorem red_dbl (p : Nat) : red m P (2 * p) = xt m P (red m P p) := ev_dbl (lin_xt m P) 1 p
theorem red_mod (hF : Fld m P) : red m P P = 0 := by
 have h1 : red m P (2 ^ m) = 2 ^ m ^^^ P := by
  obtain ⟨k, rfl⟩ : ∃ k, m = k + 1 := ⟨m - 1, by have := hF.pos; omega⟩
  rw [Nat.pow_succ, Nat.mul_comm, red_dbl, red_small (by rw [Nat.pow_succ]; have := Nat.pow_pos (n := k) (show 0 < 2 by omega); omega), xt_if (by rw [Nat.pow_succ]; have := Nat.pow_pos (n := k) (show 0 < 2 by omega); omega)]
  rw [if_pos (by rw [Nat.pow_succ]; omega)]
 have h2 : P ^^^ 2 ^ m < 2 ^ m := xor_top hF.lo hF.hi (Nat.le_refl _) (by rw [Nat.pow_succ]; have := Nat.pow_pos (n := m) (show 0 < 2 by omega); omega)
 have h3 : P = (P ^^^ 2 ^ m) ^^^ 2 ^ m := by rw [Nat.xor_assoc, Nat.xor_self, Nat.xor_zero]
 have h4 : red m P P = red m P ((P ^^^ 2 ^ m) ^^^ 2 ^ m) := congrArg (red m P) h3
 rw [h4, red_xor, red_small h2, h1, Nat.xor_comm P, Nat.xor_self]
theorem mul_lt (hF : Fld m P) {a : Nat} (h : a < 2 ^ m) (b : Nat) : mul m P a b < 2 ^ m := ev_lt hF h b
theorem mul_xorR (a b c : Nat) : mul m P a (b ^^^ c) = mul m P a b ^^^ mul m P a c := ev_xorR (lin_xt m P) a b c
theorem mul_zero (a : Nat) : mul m P a 0 = 0 := ev_zero (lin_xt m P) a
theorem zero_mul (a : Nat) : mul m P 0 a = 0 := ev_0l (lin_xt m P) a
theorem mul_one (a : Nat) : mul m P a 1 = a := ev_1r (lin_xt m P) a
theorem one_mul {a : Nat} (h : a < 2 ^ m) : mul m P 1 a = a := red_small h
theorem ev_red {a : Nat} (h : a < 2 ^ m) (p : Nat) : evX m P a p = mul m P (red m P p) a := by
 have := ev_comm (lin_xt m P) 1 a p
 have e : ev (xt m P) 1 a = a := red_small h
 rw [e] at this
 exact this
theorem mul_comm {a b : Nat} (ha : a < 2 ^ m) (hb : b < 2 ^ m) : mul m P a b = mul m P b a := by
 have := ev_red (m := m) (P := P) ha b
 rw [red_small hb] at this
 exact this
theorem mul_right (a b c : Nat) : mul m P (mul m P a b) c = mul m P (mul m P a c) b := ev_comm (lin_xt m P) a b c
theorem mul_assoc (hF : Fld m P) {a b c : Nat} (ha : a < 2 ^ m) (hb : b < 2 ^ m) (_hc : c < 2 ^ m) : mul m P (mul m P a b) c = mul m P a (mul m P b c) := by
 rw [mul_comm ha hb, mul_right, mul_comm (mul_lt hF hb c) ha]
theorem ev_mul_red {a : Nat} (hF : Fld m P) (h : a < 2 ^ m) (p : Nat) : evX m P a p = mul m P a (red m P p) := by
 rw [ev_red h, mul_comm (red_lt hF p) h]
structure EucI (m P A u v x y : Nat) : Prop where
 ix : evX m P A x = red m P u
 iy : evX m P A y = red m P v
 cop : ∀ d, dvd d u → dvd d v → d = 1
 lx : len x + len v ≤ m + 2
 ly : len y + len u ≤ m + 2
 lu : len u ≤ m + 1
 lv : len v ≤ m + 1
theorem len_P (hF : Fld m P) : len P = m + 1 := len_eq hF.lo hF.hi
theorem EucI.start (hF : Fld m P) {A : Nat} (h0 : A ≠ 0) (h : A < 2 ^ m) : EucI m P A A P 1 0 := by
 have hl := len_P hF
 have ha := len_le.2 h
 refine ⟨?_, ?_, fun d h1 h2 => ?_, ?_, ?_, by omega, by omega⟩
 ·rw [evX, ev_1r (lin_xt m P), red_small h]
 ·rw [evX, ev_zero (lin_xt m P), red_mod hF]
 ·rcases hF.irr d h2 with h | h
  ·exact h
  ·have := dvd_len h1 h0
   omega
 ·have : len 1 = 1 := rfl
  omega
 ·rw [len_zero]; omega
theorem EucI.swap {A u v x y : Nat} (h : EucI m P A u v x y) : EucI m P A v u y x := ⟨h.iy, h.ix, fun d a b => h.cop d b a, h.ly, h.lx, h.lv, h.lu⟩
theorem EucI.sub {A u v x y : Nat} (h : EucI m P A u v x y) (hle : len v ≤ len u) (hs : len (u ^^^ (v <<< (len u - len v))) ≤ len u) :
  EucI m P A (u ^^^ (v <<< (len u - len v))) v (x ^^^ (y <<< (len u - len v))) y := by
 generalize he : len u - len v = s at *
 refine ⟨?_, h.iy, fun d a b => h.cop d ?_ b, ?_, ?_, ?_, h.lv⟩
 ·rw [evX, ev_xorR (lin_xt m P), ev_shl (lin_xt m P), red_xor]
  have h1 := h.ix
  have h2 := h.iy
  unfold evX at h1 h2
  rw [h1, h2]
  congr 1
  unfold red evX
  rw [ev_shl (lin_xt m P)]
 ·have := dvd_xor a (dvd_shl b s)
  rwa [Nat.xor_assoc, Nat.xor_self, Nat.xor_zero] at this
 ·have h1 := len_xor x (y <<< s)
  have h2 := len_shl y s
  have h3 := h.lx
  have h4 := h.ly
  rcases Nat.le_total (len x) (len (y <<< s)) with h5 | h5
  ·rw [Nat.max_eq_right h5] at h1; omega
  ·rw [Nat.max_eq_left h5] at h1; omega
 ·have := h.ly; omega
 ·have := h.lu; omega
def eucM (u v : Nat) : Nat := 2 * (len u + len v) + if u = 1 then 0 else 1
theorem EucI.zero {A u x y : Nat} (h : EucI m P A u 0 x y) : u = 1 := h.cop u (dvd_refl u) (dvd_zero u)
theorem EucI.step {A u v x y : Nat} (h : EucI m P A u v x y) (hu : u ≠ 1) (hle : len v ≤ len u) :
  EucI m P A (u ^^^ (v <<< (len u - len v))) v (x ^^^ (y <<< (len u - len v))) y ∧ eucM (u ^^^ (v <<< (len u - len v))) v < eucM u v := by
 have hv : v ≠ 0 := by
  intro e; subst e; exact hu h.zero
 have hl := len_step hv hle
 refine ⟨h.sub hle (by omega), ?_⟩
 unfold eucM
 rw [if_neg hu]
 split <;> omega
theorem EucI.step' {A u v x y : Nat} (h : EucI m P A u v x y) (hu : u ≠ 1) (hlt : len u < len v) :
  EucI m P A (v ^^^ (u <<< (len v - len u))) u (y ^^^ (x <<< (len v - len u))) x ∧ eucM (v ^^^ (u <<< (len v - len u))) u < eucM u v := by
 by_cases h0 : u = 0
 ·subst h0
  have hv := h.swap.zero
  subst hv
  have e : (1 : Nat) ^^^ (0 <<< (len 1 - len 0)) = 1 := by simp
  refine ⟨h.swap.sub (by omega) (by rw [e]; exact Nat.le_refl _), ?_⟩
  rw [e]
  decide
 ·have hl := len_step h0 (Nat.le_of_lt hlt)
  refine ⟨h.swap.sub (by omega) (by omega), ?_⟩
  unfold eucM
  rw [if_neg hu]
  split <;> omega
theorem EucI.done {A v x y : Nat} (hF : Fld m P) (hA : A < 2 ^ m) (h : EucI m P A 1 v x y) : mul m P A (red m P x) = 1 := by
 rw [← ev_mul_red hF hA, h.ix, red_small (one_lt hF)]
theorem EucI.xlt {A u v x y : Nat} (h : EucI m P A u v x y) : x < 2 ^ (m + 2) := len_le.1 (by have := h.lx; omega)
theorem EucI.ult {A u v x y : Nat} (h : EucI m P A u v x y) : u < 2 ^ (m + 1) := len_le.1 h.lu
theorem red_step (hF : Fld m P) {a : Nat} (h : m < len a) : red m P (a ^^^ (P <<< (len a - 1 - m))) = red m P a ∧ len (a ^^^ (P <<< (len a - 1 - m))) < len a := by
 have hP : P ≠ 0 := by have := hF.lo; have := Nat.pow_pos (n := m) (show 0 < 2 by omega); omega
 have hl := len_P hF
 constructor
 ·rw [red_xor]
  have : red m P (P <<< (len a - 1 - m)) = 0 := by
   unfold red evX
   rw [ev_shl (lin_xt m P)]
   have h0 : ev (xt m P) 1 P = 0 := red_mod hF
   rw [h0, iter_zero (lin_xt m P)]
  rw [this, Nat.xor_zero]
 ·have := len_step hP (u := a) (by omega)
  rw [hl] at this
  rw [show len a - 1 - m = len a - (m + 1) by omega]
  exact this
theorem inv_unique (hF : Fld m P) {a r s : Nat} (ha : a < 2 ^ m) (hr : r < 2 ^ m) (hs : s < 2 ^ m) (h1 : mul m P a r = 1) (h2 : mul m P a s = 1) : r = s := by
 have : mul m P (mul m P r a) s = mul m P r (mul m P a s) := mul_assoc hF hr ha hs
 rw [mul_comm hr ha, h1, h2, mul_one, one_mul hs] at this
 exact this.symm
end
open Classical in
noncomputable def inv (m P a : Nat) : Nat := if h : ∃ r, r < 2 ^ m ∧ mul m P a r = 1 then choose h else 0
def modP (m : Nat) : Nat := if m = 8 then 0x11d else 0x1100b
set_option maxRecDepth 100000 in
theorem fld8 : Fld 8 0x11d := ⟨by decide, by decide, by decide, irr_of (i := 20) (by decide) (by decide +kernel)⟩
set_option maxRecDepth 100000 in
theorem fld16 : Fld 16 0x1100b := ⟨by decide, by decide, by decide, irr_of (i := 20) (by decide) (by decide +kernel)⟩
end Go.GF
namespace Go.GF
structure Ops (q : Nat) (mul : Nat → Nat → Nat) (inv : Nat → Nat) : Prop where
 pow : ∃ m, q = 2 ^ m
 lt : ∀ a b, a < q → b < q → mul a b < q
 comm : ∀ a b, a < q → b < q → mul a b = mul b a
 assoc : ∀ a b c, a < q → b < q → c < q → mul (mul a b) c = mul a (mul b c)
 xorR : ∀ a b c, a < q → b < q → c < q → mul a (b ^^^ c) = mul a b ^^^ mul a c
 zero : ∀ a, a < q → mul a 0 = 0
 one : ∀ a, a < q → mul a 1 = a
 one_lt : 1 < q
 invs : ∀ a, a < q → a ≠ 0 → inv a < q ∧ mul a (inv a) = 1
section
variable {q : Nat} {mul : Nat → Nat → Nat} {inv : Nat → Nat}
theorem Ops.xor_lt (h : Ops q mul inv) {a b : Nat} (ha : a < q) (hb : b < q) : a ^^^ b < q := by
 obtain ⟨m, rfl⟩ := h.pow
 exact Nat.xor_lt_two_pow ha hb
theorem Ops.zl (h : Ops q mul inv) {a : Nat} (ha : a < q) : mul 0 a = 0 := by
 rw [h.comm 0 a (by have := h.one_lt; omega) ha, h.zero a ha]
theorem Ops.ol (h : Ops q mul inv) {a : Nat} (ha : a < q) : mul 1 a = a := by
 rw [h.comm 1 a h.one_lt ha, h.one a ha]
theorem Ops.xorL (h : Ops q mul inv) {a b c : Nat} (ha : a < q) (hb : b < q) (hc : c < q) : mul (a ^^^ b) c = mul a c ^^^ mul b c := by
 rw [h.comm _ c (h.xor_lt ha hb) hc, h.xorR c a b hc ha hb, h.comm c a hc ha, h.comm c b hc hb]
theorem Ops.pos (h : Ops q mul inv) : 0 < q := by have := h.one_lt; omega
def xs : Nat → (Nat → Nat) → Nat
 | 0, _ => 0
 | n + 1, f => xs n f ^^^ f n
theorem xs_congr {f g : Nat → Nat} : ∀ {n : Nat}, (∀ i, i < n → f i = g i) → xs n f = xs n g
 | 0, _ => rfl
 | n + 1, h => by unfold xs; rw [xs_congr fun i hi => h i (by omega), h n (by omega)]
theorem xs_zero : ∀ n : Nat, xs n (fun _ => 0) = 0
 | 0 => rfl
 | n + 1 => by unfold xs; rw [xs_zero n]; simp
theorem xs_xor (f g : Nat → Nat) : ∀ n : Nat, xs n (fun i => f i ^^^ g i) = xs n f ^^^ xs n g
 | 0 => by simp [xs]
 | n + 1 => by unfold xs; rw [xs_xor f g n, xor4]
theorem xs_lt (h : Ops q mul inv) {f : Nat → Nat} : ∀ {n : Nat}, (∀ i, i < n → f i < q) → xs n f < q
 | 0, _ => h.pos
 | n + 1, hf => by unfold xs; exact h.xor_lt (xs_lt h fun i hi => hf i (by omega)) (hf n (by omega))
theorem xs_mul (h : Ops q mul inv) {a : Nat} (ha : a < q) {f : Nat → Nat} : ∀ {n : Nat}, (∀ i, i < n → f i < q) → mul a (xs n f) = xs n fun i => mul a (f i)
 | 0, _ => h.zero a ha
 | n + 1, hf => by
  unfold xs
  rw [h.xorR a _ _ ha (xs_lt h fun i hi => hf i (by omega)) (hf n (by omega)), xs_mul h ha fun i hi => hf i (by omega)]
theorem xs_one {f : Nat → Nat} {k : Nat} : ∀ {n : Nat}, k < n → (∀ i, i < n → i ≠ k → f i = 0) → xs n f = f k
 | 0, h, _ => absurd h (by omega)
 | n + 1, hk, hf => by
  unfold xs
  by_cases e : k = n
  ·subst e
   rw [xs_congr (g := fun _ => 0) fun i hi => hf i (by omega) (by omega), xs_zero, Nat.zero_xor]
  ·rw [xs_one (k := k) (by omega) fun i hi hne => hf i (by omega) hne, hf n (by omega) (fun e2 => e e2.symm), Nat.xor_zero]
theorem xs_pick {f : Nat → Nat} {k n : Nat} (hk : k < n) : xs n f = f k ^^^ xs n fun i => if i = k then 0 else f i := by
 have h1 : xs n f = xs n fun i => (if i = k then f i else 0) ^^^ (if i = k then 0 else f i) := xs_congr fun i _ => by split <;> simp
 have h2 : xs n (fun i => if i = k then f i else 0) = f k := by
  rw [xs_one (k := k) hk fun i _ hne => by rw [if_neg hne], if_pos rfl]
 rw [h1, xs_xor, h2]
theorem xs_swap {f : Nat → Nat} {a b n : Nat} (ha : a < n) (hb : b < n) : xs n (fun i => f (if i = a then b else if i = b then a else i)) = xs n f := by
 by_cases e : a = b
 ·subst e
  exact xs_congr fun i _ => by
   by_cases h : i = a
   ·rw [if_pos h, h]
   ·rw [if_neg h, if_neg h]
 rw [xs_pick ha, xs_pick (f := fun i => if i = a then 0 else f (if i = a then b else if i = b then a else i)) hb]
 rw [xs_pick (f := f) ha, xs_pick (f := fun i => if i = a then 0 else f i) hb]
 simp only [if_true, if_neg (Ne.symm e)]
 rw [← Nat.xor_assoc, ← Nat.xor_assoc, Nat.xor_comm (f b)]
 congr 1
 refine xs_congr fun i _ => ?_
 by_cases h1 : i = b
 ·rw [if_pos h1, if_pos h1]
 ·rw [if_neg h1, if_neg h1]
  by_cases h2 : i = a
  ·rw [if_pos h2, if_pos h2, ite_self]
  ·rw [if_neg h2, if_neg h2, if_neg h2, if_neg h1]
abbrev Mat := Nat → Nat → Nat
def Indep (q : Nat) (mul : Nat → Nat → Nat) (R C : Nat) (M : Mat) : Prop :=
 ∀ c : Nat → Nat, (∀ i, i < R → c i < q) → (∀ j, j < C → xs R (fun i => mul (c i) (M i j)) = 0) → ∀ i, i < R → c i = 0
def swapM (M : Mat) (a b : Nat) : Mat := fun i => M (if i = a then b else if i = b then a else i)
def scaleM (mul : Nat → Nat → Nat) (M : Mat) (r f : Nat) : Mat := fun i j => if i = r then mul f (M r j) else M i j
def addM (mul : Nat → Nat → Nat) (M : Mat) (i r g : Nat) : Mat := fun i' j => if i' = i then M i j ^^^ mul g (M r j) else M i' j
def Bnd (q R C : Nat) (M : Mat) : Prop := ∀ i, i < R → ∀ j, j < C → M i j < q
theorem sw_lt {a b i R : Nat} (ha : a < R) (hb : b < R) (hi : i < R) : (if i = a then b else if i = b then a else i) < R := by split <;> (try split) <;> omega
theorem sw_sw (a b i : Nat) : (if (if i = a then b else if i = b then a else i) = a then b else if (if i = a then b else if i = b then a else i) = b then a else (if i = a then b else if i = b then a else i)) = i := by
 by_cases h1 : i = a
 ·subst h1
  rw [if_pos rfl]
  by_cases h2 : b = i
  ·rw [if_pos h2, h2]
  ·rw [if_neg h2, if_pos rfl]
 ·by_cases h2 : i = b
  ·rw [if_neg h1, if_pos h2, if_pos rfl, h2]
  ·rw [if_neg h1, if_neg h2, if_neg h1, if_neg h2]
theorem swap_swap (M : Mat) (a b : Nat) : swapM (swapM M a b) a b = M := by
 funext i
 unfold swapM
 rw [sw_sw]
theorem bnd_swap {R C a b : Nat} {M : Mat} (h : Bnd q R C M) (ha : a < R) (hb : b < R) : Bnd q R C (swapM M a b) := fun _ hi j hj => h _ (sw_lt ha hb hi) j hj
theorem indep_swap {R C a b : Nat} {M : Mat} (ha : a < R) (hb : b < R) (h : Indep q mul R C M) : Indep q mul R C (swapM M a b) := by
 intro c hc hz i hi
 have := h (fun i => c (if i = a then b else if i = b then a else i)) (fun i hi => hc _ (sw_lt ha hb hi)) (fun j hj => by
  rw [← hz j hj, ← xs_swap (f := fun i => mul (c i) (swapM M a b i j)) ha hb]
  refine xs_congr fun i _ => ?_
  simp only [swapM]
  rw [sw_sw]) (if i = a then b else if i = b then a else i) (sw_lt ha hb hi)
 simp only [sw_sw] at this
 exact this
theorem indep_swap_iff {R C a b : Nat} {M : Mat} (ha : a < R) (hb : b < R) : Indep q mul R C (swapM M a b) ↔ Indep q mul R C M :=
 ⟨fun h => by have := indep_swap ha hb h; rwa [swap_swap] at this, indep_swap ha hb⟩
theorem indep_scale (h : Ops q mul inv) {R C r f x : Nat} {M : Mat} (hr : r < R) (hf : f < q) (hx : x < q) (hfx : mul f x = 1) (hM : Bnd q R C M) (hI : Indep q mul R C M) : Indep q mul R C (scaleM mul M r f) := by
 intro c hc hz i hi
 have h1 := hI (fun i => if i = r then mul (c r) f else c i) (fun i hi => by split; exact h.lt _ _ (hc r hr) hf; exact hc i hi) (fun j hj => by
  rw [← hz j hj]
  refine xs_congr fun i hi => ?_
  unfold scaleM
  by_cases e : i = r
  ·subst e
   simp only [if_true]
   exact h.assoc _ _ _ (hc i hi) hf (hM i hi j hj)
  ·simp only [if_neg e]) i hi
 by_cases e : i = r
 ·subst e
  simp only [if_true] at h1
  have h2 : mul (mul (c i) f) x = c i := by rw [h.assoc _ _ _ (hc i hi) hf hx, hfx, h.one _ (hc i hi)]
  rw [← h2, h1, h.zl hx]
 ·simp only [if_neg e] at h1
  exact h1
theorem scale_scale (h : Ops q mul inv) {R C r f x : Nat} {M : Mat} (hf : f < q) (hx : x < q) (hfx : mul f x = 1) (hM : Bnd q R C M) : ∀ i, i < R → ∀ j, j < C → scaleM mul (scaleM mul M r f) r x i j = M i j := by
 intro i hi j hj
 unfold scaleM
 by_cases e : i = r
 ·subst e
  simp only [if_true]
  rw [← h.assoc x f _ hx hf (hM i hi j hj), h.comm x f hx hf, hfx, h.ol (hM i hi j hj)]
 ·simp only [if_neg e]
theorem indep_congr {R C : Nat} {M M' : Mat} (he : ∀ i, i < R → ∀ j, j < C → M i j = M' i j) (h : Indep q mul R C M) : Indep q mul R C M' := by
 intro c hc hz
 exact h c hc fun j hj => by
  rw [← hz j hj]
  exact xs_congr fun i hi => by rw [he i hi j hj]
theorem bnd_scale (h : Ops q mul inv) {R C r f : Nat} {M : Mat} (hr : r < R) (hf : f < q) (hM : Bnd q R C M) : Bnd q R C (scaleM mul M r f) := by
 intro i hi j hj
 unfold scaleM
 split
 ·exact h.lt _ _ hf (hM r hr j hj)
 ·exact hM i hi j hj
theorem indep_scale_iff (h : Ops q mul inv) {R C r f x : Nat} {M : Mat} (hr : r < R) (hf : f < q) (hx : x < q) (hfx : mul f x = 1) (hM : Bnd q R C M) : Indep q mul R C (scaleM mul M r f) ↔ Indep q mul R C M :=
 ⟨fun hI => indep_congr (scale_scale h hf hx hfx hM) (indep_scale h hr hx hf (by rw [h.comm x f hx hf]; exact hfx) (bnd_scale h hr hf hM) hI), indep_scale h hr hf hx hfx hM⟩
theorem bnd_add (h : Ops q mul inv) {R C i r g : Nat} {M : Mat} (hi : i < R) (hr : r < R) (hg : g < q) (hM : Bnd q R C M) : Bnd q R C (addM mul M i r g) := by
 intro i' hi' j hj
 unfold addM
 split
 ·exact h.xor_lt (hM i hi j hj) (h.lt _ _ hg (hM r hr j hj))
 ·exact hM i' hi' j hj
theorem indep_add (h : Ops q mul inv) {R C i r g : Nat} {M : Mat} (hi : i < R) (hr : r < R) (hne : i ≠ r) (hg : g < q) (hM : Bnd q R C M) (hI : Indep q mul R C M) : Indep q mul R C (addM mul M i r g) := by
 intro c hc hz k hk
 have hcg : mul (c i) g < q := h.lt _ _ (hc i hi) hg
 have h1 := hI (fun k => if k = r then c r ^^^ mul (c i) g else c k) (fun k hk => by split; exact h.xor_lt (hc r hr) hcg; exact hc k hk) (fun j hj => by
  rw [← hz j hj]
  have e1 : xs R (fun k => mul (if k = r then c r ^^^ mul (c i) g else c k) (M k j)) = xs R fun k => mul (c k) (M k j) ^^^ (if k = r then mul (mul (c i) g) (M r j) else 0) := xs_congr fun k hk => by
   by_cases e : k = r
   ·subst e
    simp only [if_true]
    exact h.xorL (hc k hk) hcg (hM k hk j hj)
   ·simp only [if_neg e, Nat.xor_zero]
  have e2 : xs R (fun k => mul (c k) (addM mul M i r g k j)) = xs R fun k => mul (c k) (M k j) ^^^ (if k = i then mul (c i) (mul g (M r j)) else 0) := xs_congr fun k hk => by
   unfold addM
   by_cases e : k = i
   ·subst e
    simp only [if_true]
    exact h.xorR _ _ _ (hc k hk) (hM k hk j hj) (h.lt _ _ hg (hM r hr j hj))
   ·simp only [if_neg e, Nat.xor_zero]
  rw [e1, e2, xs_xor, xs_xor, xs_one (f := fun k => if k = r then mul (mul (c i) g) (M r j) else 0) (k := r) hr (fun k _ hne => by rw [if_neg hne]), xs_one (f := fun k => if k = i then mul (c i) (mul g (M r j)) else 0) (k := i) hi (fun k _ hne => by rw [if_neg hne]), if_pos rfl, if_pos rfl, h.assoc _ _ _ (hc i hi) hg (hM r hr j hj)])
 by_cases e : k = r
 ·subst e
  have h2 := h1 i hi
  simp only [if_neg hne] at h2
  have h3 := h1 k hk
  simp only [if_true] at h3
  rw [h2, h.zl hg, Nat.xor_zero] at h3
  exact h3
 ·have h3 := h1 k hk
  simp only [if_neg e] at h3
  exact h3
theorem add_add {R C i r g : Nat} {M : Mat} (hne : i ≠ r) : ∀ k, k < R → ∀ j, j < C → addM mul (addM mul M i r g) i r g k j = M k j := by
 intro k _ j _
 unfold addM
 by_cases e : k = i
 ·subst e
  simp only [if_true, if_neg (Ne.symm hne)]
  rw [Nat.xor_assoc, Nat.xor_self, Nat.xor_zero]
 ·simp only [if_neg e]
theorem indep_add_iff (h : Ops q mul inv) {R C i r g : Nat} {M : Mat} (hi : i < R) (hr : r < R) (hne : i ≠ r) (hg : g < q) (hM : Bnd q R C M) : Indep q mul R C (addM mul M i r g) ↔ Indep q mul R C M :=
 ⟨fun hI => indep_congr (add_add hne) (indep_add h hi hr hne hg (bnd_add h hi hr hg hM) hI), indep_add h hi hr hne hg hM⟩
def clearM (mul : Nat → Nat → Nat) (M : Mat) (r jc : Nat) (n : Nat) : Mat := fun i j => if i < n ∧ i ≠ r then M i j ^^^ mul (M i jc) (M r j) else M i j
theorem clear_zero (M : Mat) (r jc : Nat) : clearM mul M r jc 0 = M := by
 funext i j
 unfold clearM
 rw [if_neg (by omega)]
theorem clear_skip (M : Mat) (r jc : Nat) : clearM mul M r jc (r + 1) = clearM mul M r jc r := by
 funext i j
 unfold clearM
 by_cases h : i < r
 ·rw [if_pos ⟨by omega, by omega⟩, if_pos ⟨by omega, by omega⟩]
 ·rw [if_neg (by omega), if_neg (by omega)]
theorem clear_row (M : Mat) (r jc n : Nat) : clearM mul M r jc n r = M r := by
 funext j
 unfold clearM
 rw [if_neg (by omega)]
theorem clear_step (M : Mat) {r jc n : Nat} (hn : n ≠ r) : clearM mul M r jc (n + 1) = addM mul (clearM mul M r jc n) n r (M n jc) := by
 funext i j
 unfold addM
 rw [clear_row]
 by_cases e : i = n
 ·subst e
  unfold clearM
  rw [if_pos ⟨by omega, hn⟩, if_pos rfl, if_neg (by omega)]
 ·rw [if_neg e]
  unfold clearM
  by_cases h : i < n ∧ i ≠ r
  ·rw [if_pos ⟨by omega, h.2⟩, if_pos h]
  ·rw [if_neg (by omega), if_neg h]
theorem clear_ok (h : Ops q mul inv) {R C r jc : Nat} {M : Mat} (hr : r < R) (hj : jc < C) (hM : Bnd q R C M) : ∀ n, n ≤ R → Bnd q R C (clearM mul M r jc n) ∧ (Indep q mul R C (clearM mul M r jc n) ↔ Indep q mul R C M)
 | 0, _ => by rw [clear_zero]; exact ⟨hM, Iff.rfl⟩
 | n + 1, hn => by
  have ih := clear_ok h hr hj hM n (by omega)
  by_cases e : n = r
  ·subst e; rw [clear_skip]; exact ih
  ·rw [clear_step M e]
   exact ⟨bnd_add h (by omega) hr (hM n (by omega) jc hj) ih.1, (indep_add_iff h (by omega) hr e (hM n (by omega) jc hj) ih.1).trans ih.2⟩
def findR (M : Mat) (R r j : Nat) : Option Nat := (List.range R).find? fun i => decide (r ≤ i) && (M i j != 0)
def pivM (mul : Nat → Nat → Nat) (inv : Nat → Nat) (R j i r : Nat) (M : Mat) : Mat :=
 clearM mul (scaleM mul (swapM M i r) r (inv (swapM M i r r j))) r j R
def stepC (mul : Nat → Nat → Nat) (inv : Nat → Nat) (R : Nat) (s : List Nat × Mat) (j : Nat) : List Nat × Mat :=
 match findR s.2 R s.1.length j with
 | none => s
 | some i => (s.1 ++ [j], pivM mul inv R j i s.1.length s.2)
def redM (mul : Nat → Nat → Nat) (inv : Nat → Nat) (R n : Nat) (M : Mat) : List Nat × Mat := (List.range n).foldl (stepC mul inv R) ([], M)
theorem redM_succ (R n : Nat) (M : Mat) : redM mul inv R (n + 1) M = stepC mul inv R (redM mul inv R n M) n := by
 unfold redM
 rw [List.range_succ, List.foldl_append]; rfl
theorem findR_none {M : Mat} {R r j : Nat} (h : findR M R r j = none) : ∀ i, r ≤ i → i < R → M i j = 0 := by
 intro i h1 h2
 have := List.find?_eq_none.1 h i (List.mem_range.2 h2)
 simpa [h1] using this
theorem findR_some {M : Mat} {R r j i : Nat} (h : findR M R r j = some i) : r ≤ i ∧ i < R ∧ M i j ≠ 0 := by
 have h1 := List.find?_some h
 have h2 := List.mem_range.1 (List.mem_of_find?_eq_some h)
 simp only [Bool.and_eq_true, decide_eq_true_eq, bne_iff_ne] at h1
 exact ⟨h1.1, h2, h1.2⟩
structure RedI (q : Nat) (mul : Nat → Nat → Nat) (R C : Nat) (M0 : Mat) (j : Nat) (ps : List Nat) (M : Mat) : Prop where
 len : ps.length ≤ R
 inc : ps.Pairwise (· < ·)
 lt : ∀ p ∈ ps, p < j
 unit : ∀ a p, ps[a]? = some p → ∀ i, i < R → M i p = if i = a then 1 else 0
 low : ∀ i, ps.length ≤ i → i < R → ∀ k, k < j → M i k = 0
 bnd : Bnd q R C M
 ind : Indep q mul R C M ↔ Indep q mul R C M0
theorem RedI.start {R C : Nat} {M : Mat} (hM : Bnd q R C M) : RedI q mul R C M 0 [] M :=
 ⟨Nat.zero_le _, List.Pairwise.nil, by simp, by simp, fun _ _ _ k hk => absurd hk (by omega), hM, Iff.rfl⟩
theorem RedI.step (h : Ops q mul inv) {R C j : Nat} {M0 M : Mat} {ps : List Nat} (hj : j < C) (hI : RedI q mul R C M0 j ps M) :
  RedI q mul R C M0 (j + 1) (stepC mul inv R (ps, M) j).1 (stepC mul inv R (ps, M) j).2 := by
 unfold stepC
 simp only
 cases hf : findR M R ps.length j with
 | none =>
  refine ⟨hI.len, hI.inc, fun p hp => by have := hI.lt p hp; omega, hI.unit, fun i h1 h2 k hk => ?_, hI.bnd, hI.ind⟩
  by_cases e : k = j
  ·subst e; exact findR_none hf i h1 h2
  ·exact hI.low i h1 h2 k (by omega)
 | some i =>
  simp only
  obtain ⟨h1, h2, h3⟩ := findR_some hf
  generalize hr' : ps.length = r at *
  have hrR : r < R := by omega
  have hx : M i j < q := hI.bnd i h2 j hj
  have hsw : swapM M i r r j = M i j := by
   unfold swapM
   by_cases e : r = i
   ·subst e; simp
   ·rw [if_neg e, if_pos rfl]
  obtain ⟨hf1, hf2⟩ := h.invs _ hx h3
  have b1 := bnd_swap hI.bnd h2 hrR
  have b2 := bnd_scale h hrR hf1 b1
  have i1 := (indep_swap_iff (q := q) (mul := mul) (C := C) (M := M) h2 hrR)
  have i2 := indep_scale_iff h (f := inv (M i j)) (x := M i j) hrR hf1 hx (by rw [h.comm _ _ hf1 hx]; exact hf2) b1
  have i3 := clear_ok h hrR hj b2 R (Nat.le_refl _)
  unfold pivM
  rw [hsw]
  -- what the rows hold at earlier columns
  have low1 : ∀ k, k < j → ∀ i', r ≤ i' → i' < R → swapM M i r i' k = 0 := by
   intro k hk i' hr2 hi'
   unfold swapM
   refine hI.low _ ?_ (sw_lt h2 hrR hi') k hk
   rw [hr']
   split
   ·omega
   ·split <;> omega
  have low2 : ∀ k, k < j → scaleM mul (swapM M i r) r (inv (M i j)) r k = 0 := by
   intro k hk
   unfold scaleM
   rw [if_pos rfl, low1 k hk r (Nat.le_refl _) hrR, h.zero _ hf1]
  have keep : ∀ k, k < j → ∀ i', i' < R → clearM mul (scaleM mul (swapM M i r) r (inv (M i j))) r j R i' k = if i' = r then 0 else swapM M i r i' k := by
   intro k hk i' hi'
   unfold clearM
   by_cases e : i' = r
   ·rw [if_neg (by omega), if_pos e, e]; exact low2 k hk
   ·rw [if_pos ⟨hi', e⟩, if_neg e, low2 k hk, h.zero _ (b2 i' hi' j hj), Nat.xor_zero]
    unfold scaleM
    rw [if_neg e]
  have hcol : ∀ i', i' < R → clearM mul (scaleM mul (swapM M i r) r (inv (M i j))) r j R i' j = if i' = r then 1 else 0 := by
   intro i' hi'
   have hrj : scaleM mul (swapM M i r) r (inv (M i j)) r j = 1 := by
    unfold scaleM
    rw [if_pos rfl, hsw, h.comm _ _ hf1 hx, hf2]
   unfold clearM
   by_cases e : i' = r
   ·rw [if_neg (by omega), if_pos e, e, hrj]
   ·rw [if_pos ⟨hi', e⟩, if_neg e, hrj, h.one _ (b2 i' hi' j hj), Nat.xor_self]
  refine ⟨by rw [List.length_append]; simp; omega, ?_, ?_, ?_, ?_, i3.1, i3.2.trans (i2.trans (i1.trans hI.ind))⟩
  ·rw [List.pairwise_append]
   exact ⟨hI.inc, List.pairwise_singleton _ _, fun a ha b hb => by rw [List.mem_singleton.1 hb]; exact hI.lt a ha⟩
  ·intro p hp
   rcases List.mem_append.1 hp with hp | hp
   ·have := hI.lt p hp; omega
   ·rw [List.mem_singleton.1 hp]; omega
  ·intro a p hap i' hi'
   rw [List.getElem?_append] at hap
   by_cases ha : a < ps.length
   ·rw [if_pos ha] at hap
    have hpj := hI.lt p (List.mem_of_getElem? hap)
    rw [keep p hpj i' hi']
    have hu := hI.unit a p hap
    by_cases e : i' = r
    ·rw [if_pos e, if_neg (by omega)]
    ·rw [if_neg e]
     unfold swapM
     by_cases e2 : i' = i
     ·rw [if_pos e2, hu r hrR, if_neg (by omega), if_neg (by omega)]
     ·rw [if_neg e2, if_neg e, hu i' hi']
   ·rw [if_neg ha] at hap
    have h0 : a - ps.length = 0 := by
     have := (List.getElem?_eq_some_iff.1 hap).1
     simp at this; omega
    rw [h0] at hap
    obtain rfl : j = p := by simpa using hap
    obtain rfl : a = r := by omega
    exact hcol i' hi'
  ·intro i' h4 h5 k hk
   rw [List.length_append, List.length_singleton, hr'] at h4
   by_cases e : k = j
   ·subst e
    rw [hcol i' h5, if_neg (by omega)]
   ·rw [keep k (by omega) i' h5, if_neg (by omega)]
    exact low1 k (by omega) i' (by omega) h5
theorem redI (h : Ops q mul inv) {R C : Nat} {M : Mat} (hM : Bnd q R C M) : ∀ n, n ≤ C → RedI q mul R C M n (redM mul inv R n M).1 (redM mul inv R n M).2
 | 0, _ => RedI.start hM
 | n + 1, hn => by rw [redM_succ]; exact (redI h hM n (by omega)).step h (by omega)
theorem pair_len : ∀ {l : List Nat} {b n : Nat}, l.Pairwise (· < ·) → (∀ p ∈ l, b ≤ p ∧ p < n) → l.length ≤ n - b
 | [], _, _, _, _ => Nat.zero_le _
 | x :: r, b, n, h, hb => by
  obtain ⟨h1, h2⟩ := List.pairwise_cons.1 h
  have h3 := hb x (by simp)
  have := pair_len (b := x + 1) (n := n) h2 fun p hp => ⟨h1 p hp, (hb p (by simp [hp])).2⟩
  rw [List.length_cons]; omega
theorem redM_pair (h : Ops q mul inv) {R C : Nat} {M : Mat} (hM : Bnd q R C M) : (redM mul inv R C M).1.Pairwise (· < ·) ∧ (∀ p ∈ (redM mul inv R C M).1, p < C) ∧ (redM mul inv R C M).1.length ≤ R ∧ (redM mul inv R C M).1.length ≤ C := by
 have hI := redI h hM C (Nat.le_refl _)
 exact ⟨hI.inc, hI.lt, hI.len, pair_len (b := 0) (n := C) hI.inc fun p hp => ⟨Nat.zero_le _, hI.lt p hp⟩⟩
end
end Go.GF
namespace Go.GF
def mulC (m a b : Nat) : Nat := evN (xt m (modP m)) a m b
def redC (m p : Nat) : Nat := evN (xt m (modP m)) 1 (m + 2) p
def eucF (m : Nat) : Nat → Nat → Nat → Nat → Nat → Nat
 | 0, _, _, _, _ => 0
 | k + 1, u, v, x, y => if u = 1 then redC m x else if len v ≤ len u then eucF m k (u ^^^ (v <<< (len u - len v))) v (x ^^^ (y <<< (len u - len v))) y
  else eucF m k (v ^^^ (u <<< (len v - len u))) u (y ^^^ (x <<< (len v - len u))) x
def invC (m a : Nat) : Nat := eucF m (4 * m + 8) a (modP m) 1 0
def isF (m : Nat) : Prop := m = 8 ∨ m = 16
theorem fld {m : Nat} (h : isF m) : Fld m (modP m) := by
 rcases h with rfl | rfl
 ·exact fld8
 ·exact fld16
theorem mulC_eq {m a b : Nat} (hb : b < 2 ^ m) : mulC m a b = mul m (modP m) a b := (ev_fuel (lin_xt m (modP m)) a hb).symm
theorem redC_eq {m p : Nat} (hp : p < 2 ^ (m + 2)) : redC m p = red m (modP m) p := (ev_fuel (lin_xt m (modP m)) 1 hp).symm
theorem eucF_ok {m A : Nat} (hF : Fld m (modP m)) (hA : A < 2 ^ m) : ∀ {k u v x y : Nat}, eucM u v < k → EucI m (modP m) A u v x y → eucF m k u v x y < 2 ^ m ∧ mul m (modP m) A (eucF m k u v x y) = 1
 | 0, _, _, _, _, hk, _ => absurd hk (by omega)
 | k + 1, u, v, x, y, hk, h => by
  unfold eucF
  by_cases hu : u = 1
  ·rw [if_pos hu]
   subst hu
   rw [redC_eq h.xlt]
   exact ⟨red_lt hF x, h.done hF hA⟩
  ·rw [if_neg hu]
   by_cases hl : len v ≤ len u
   ·rw [if_pos hl]
    obtain ⟨h1, h2⟩ := h.step hu hl
    exact eucF_ok hF hA (by omega) h1
   ·rw [if_neg hl]
    obtain ⟨h1, h2⟩ := h.step' hu (by omega)
    exact eucF_ok hF hA (by omega) h1
theorem invC_ok {m a : Nat} (hm : isF m) (h0 : a ≠ 0) (ha : a < 2 ^ m) : invC m a < 2 ^ m ∧ mul m (modP m) a (invC m a) = 1 := by
 have hF := fld hm
 refine eucF_ok hF ha ?_ (EucI.start hF h0 ha)
 have h1 := len_le.2 ha
 have h2 := len_P hF
 unfold eucM
 split <;> omega
theorem opsC {m : Nat} (hm : isF m) : Ops (2 ^ m) (mulC m) (invC m) := by
 have hF := fld hm
 refine ⟨⟨m, rfl⟩, fun a b ha hb => ?_, fun a b ha hb => ?_, fun a b c ha hb hc => ?_, fun a b c ha hb hc => ?_, fun a ha => ?_, fun a ha => ?_, one_lt hF, fun a ha h0 => ?_⟩
 ·rw [mulC_eq hb]; exact mul_lt hF ha b
 ·rw [mulC_eq hb, mulC_eq ha]; exact mul_comm ha hb
 ·rw [mulC_eq hb, mulC_eq hc, mulC_eq hc]
  have h1 := mul_lt hF hb c
  rw [mulC_eq h1]
  exact mul_assoc hF ha hb hc
 ·rw [mulC_eq (Nat.xor_lt_two_pow hb hc), mulC_eq hb, mulC_eq hc]; exact mul_xorR a b c
 ·rw [mulC_eq (Nat.pow_pos (by omega))]; exact mul_zero a
 ·rw [mulC_eq (one_lt hF)]; exact mul_one a
 ·obtain ⟨h1, h2⟩ := invC_ok hm h0 ha
  exact ⟨h1, by rw [mulC_eq h1]; exact h2⟩
structure CodeM where
 m : Nat
 k : Nat
 par : List (List Nat)
structure CodeM.Ok (c : CodeM) : Prop where
 fld : isF c.m
 pos : 1 ≤ c.k
 row : ∀ r ∈ c.par, r.length = c.k ∧ ∀ x ∈ r, x < 2 ^ c.m
def CodeM.n (c : CodeM) : Nat := c.k + c.par.length
def CodeM.gen (c : CodeM) (u i : Nat) : Nat := if u < c.k then (if u = i then 1 else 0) else ((c.par[u - c.k]?).getD [])[i]?.getD 0
theorem gen_lt {c : CodeM} (h : c.Ok) (u i : Nat) : c.gen u i < 2 ^ c.m := by
 have h1 := (opsC h.fld).one_lt
 unfold CodeM.gen
 split
 ·split <;> omega
 ·cases hr : c.par[u - c.k]? with
  | none => simp; omega
  | some r =>
   simp only [Option.getD_some]
   cases hx : r[i]? with
   | none => simp; omega
   | some x => exact (h.row r (List.mem_of_getElem? hr)).2 x (List.mem_of_getElem? hx)
def units (have_ : List Bool) : List Nat := (List.range have_.length).filter fun u => (have_[u]?).getD false
def matT (c : CodeM) (us : List Nat) : Mat := fun i j => c.gen ((us[j]?).getD 0) i
theorem matT_bnd {c : CodeM} (h : c.Ok) (us : List Nat) : Bnd (2 ^ c.m) c.k us.length (matT c us) := fun _ _ _ _ => gen_lt h _ _
def basisL (c : CodeM) (us : List Nat) : List Nat := (redM (mulC c.m) (invC c.m) c.k us.length (matT c us)).1
theorem mem_units {h : List Bool} {u : Nat} : u ∈ units h ↔ h[u]? = some true := by
 unfold units
 rw [List.mem_filter, List.mem_range]
 constructor
 ·rintro ⟨h1, h2⟩
  rw [List.getElem?_eq_getElem h1, Option.getD_some] at h2
  rw [List.getElem?_eq_getElem h1, h2]
 ·intro h1
  exact ⟨(List.getElem?_eq_some_iff.1 h1).1, by rw [h1]; rfl⟩
end Go.GF
namespace Go.GF
end Go.GF
