/- The fields with 2^8 and 2^16 elements: plain laws of polynomials over the field with two elements, as natural numbers. They speak of no program. -/
namespace Go.GF

/-! ### a polynomial at a linear operator -/
structure Lin (t : Nat → Nat) : Prop where
  xor : ∀ a b, t (a ^^^ b) = t a ^^^ t b
theorem Lin.zero {t : Nat → Nat} (h : Lin t) : t 0 = 0 := by
  have := h.xor 0 0
  rw [Nat.xor_self, Nat.xor_self] at this
  exact this
def bitM (b a : Nat) : Nat := if b % 2 = 1 then a else 0
theorem bitM_zero (b : Nat) : bitM b 0 = 0 := by unfold bitM; split <;> rfl
theorem bitM_xor (b a c : Nat) : bitM b (a ^^^ c) = bitM b a ^^^ bitM b c := by unfold bitM; split <;> simp
theorem bitM_xorL (b c a : Nat) : bitM (b ^^^ c) a = bitM b a ^^^ bitM c a := by
  unfold bitM
  have e : decide ((b ^^^ c) % 2 = 1) = (decide (b % 2 = 1)).xor (decide (c % 2 = 1)) := by rw [← Nat.testBit_zero, ← Nat.testBit_zero, ← Nat.testBit_zero, Nat.testBit_xor]
  by_cases hb : b % 2 = 1 <;> by_cases hc : c % 2 = 1 <;> simp_all
theorem Lin.bitM {t : Nat → Nat} (h : Lin t) (b a : Nat) : t (bitM b a) = GF.bitM b (t a) := by unfold GF.bitM; split <;> simp [h.zero]
/-- n bits of p. -/
def evN (t : Nat → Nat) (a : Nat) : Nat → Nat → Nat
  | 0, _ => 0
  | n + 1, p => t (evN t a n (p / 2)) ^^^ bitM p a
def ev (t : Nat → Nat) (a p : Nat) : Nat := evN t a p p
theorem evN_zero {t : Nat → Nat} (ht : Lin t) (a : Nat) : ∀ n, evN t a n 0 = 0
  | 0 => rfl
  | n + 1 => by unfold evN; rw [Nat.zero_div, evN_zero ht a n, ht.zero]; simp [bitM]
theorem evN_fuel {t : Nat → Nat} (ht : Lin t) (a : Nat) : ∀ {n k p : Nat}, p < 2 ^ n → p < 2 ^ k → evN t a n p = evN t a k p
  | 0, k, p, h, _ => by
    obtain rfl : p = 0 := by simp at h; exact h
    rw [evN_zero ht, evN_zero ht]
  | n + 1, 0, p, _, h => by
    obtain rfl : p = 0 := by simp at h; exact h
    rw [evN_zero ht, evN_zero ht]
  | n + 1, k + 1, p, h, h' => by
    unfold evN
    rw [evN_fuel ht a (n := n) (k := k) (p := p / 2) (by rw [Nat.pow_succ] at h; omega) (by rw [Nat.pow_succ] at h'; omega)]
theorem ev_fuel {t : Nat → Nat} (ht : Lin t) (a : Nat) {n p : Nat} (h : p < 2 ^ n) : ev t a p = evN t a n p := evN_fuel ht a (Nat.lt_two_pow_self) h
theorem ev_zero {t : Nat → Nat} (ht : Lin t) (a : Nat) : ev t a 0 = 0 := evN_zero ht a _
theorem ev_eq {t : Nat → Nat} (ht : Lin t) (a p : Nat) : ev t a p = t (ev t a (p / 2)) ^^^ bitM p a := by
  have h : p < 2 ^ p := Nat.lt_two_pow_self
  rw [ev_fuel ht a (n := p + 1) (by rw [Nat.pow_succ]; omega), ev_fuel ht a (n := p) (p := p / 2) (by omega)]
  rfl
theorem ev_0l {t : Nat → Nat} (ht : Lin t) (p : Nat) : ev t 0 p = 0 := by
  induction p using Nat.strongRecOn with
  | _ p ih =>
    rw [ev_eq ht]
    by_cases h : p = 0
    · subst h; rw [ev_zero ht]; simp [ht.zero, bitM_zero]
    · rw [ih (p / 2) (by omega), ht.zero, bitM_zero]; rfl
theorem ev_1r {t : Nat → Nat} (ht : Lin t) (a : Nat) : ev t a 1 = a := by
  rw [ev_eq ht, show 1 / 2 = 0 from rfl, ev_zero ht, ht.zero]; simp [bitM]
theorem xor4 (a b c d : Nat) : (a ^^^ b) ^^^ (c ^^^ d) = (a ^^^ c) ^^^ (b ^^^ d) := by
  rw [Nat.xor_assoc, ← Nat.xor_assoc b, Nat.xor_comm b c, Nat.xor_assoc c, ← Nat.xor_assoc a]
theorem ev_xorL {t : Nat → Nat} (ht : Lin t) (a b p : Nat) : ev t (a ^^^ b) p = ev t a p ^^^ ev t b p := by
  induction p using Nat.strongRecOn with
  | _ p ih =>
    by_cases h : p = 0
    · subst h; simp [ev_zero ht]
    · rw [ev_eq ht, ev_eq ht a, ev_eq ht b, ih (p / 2) (by omega), ht.xor, bitM_xor, xor4]
theorem ev_xorR {t : Nat → Nat} (ht : Lin t) (a p : Nat) : ∀ q, ev t a (p ^^^ q) = ev t a p ^^^ ev t a q := by
  induction p using Nat.strongRecOn with
  | _ p ih =>
    intro q
    by_cases h : p = 0
    · subst h; simp [ev_zero ht]
    · rw [ev_eq ht, ev_eq ht a p, ev_eq ht a q, Nat.xor_div_two, ih (p / 2) (by omega), ht.xor, bitM_xorL, xor4]
theorem ev_t {t : Nat → Nat} (ht : Lin t) (a p : Nat) : ev t (t a) p = t (ev t a p) := by
  induction p using Nat.strongRecOn with
  | _ p ih =>
    by_cases h : p = 0
    · subst h; simp [ev_zero ht, ht.zero]
    · rw [ev_eq ht, ev_eq ht a, ih (p / 2) (by omega), ht.xor, ht.bitM]
theorem ev_dbl {t : Nat → Nat} (ht : Lin t) (a p : Nat) : ev t a (2 * p) = t (ev t a p) := by
  rw [ev_eq ht, show 2 * p / 2 = p by omega]
  simp [bitM]
def iter (t : Nat → Nat) : Nat → Nat → Nat
  | 0, a => a
  | n + 1, a => t (iter t n a)
theorem iter_zero {t : Nat → Nat} (ht : Lin t) : ∀ n, iter t n 0 = 0
  | 0 => rfl
  | n + 1 => by unfold iter; rw [iter_zero ht n, ht.zero]
theorem ev_shl {t : Nat → Nat} (ht : Lin t) (a p : Nat) : ∀ n, ev t a (p <<< n) = iter t n (ev t a p)
  | 0 => rfl
  | n + 1 => by
    rw [Nat.shiftLeft_succ, ev_dbl ht, ev_shl ht a p n]; rfl
theorem ev_comm {t : Nat → Nat} (ht : Lin t) (a p q : Nat) : ev t (ev t a p) q = ev t (ev t a q) p := by
  induction p using Nat.strongRecOn with
  | _ p ih =>
    by_cases h : p = 0
    · subst h; rw [ev_zero ht, ev_zero ht, ev_0l ht]
    · rw [ev_eq ht a p, ev_xorL ht, ev_t ht, ih (p / 2) (by omega)]
      rw [ev_eq ht (ev t a q) p]
      congr 1
      unfold bitM
      split
      · rfl
      · exact ev_0l ht q
/-- Any linear operator that commutes with t, on a value. -/
theorem ev_iter {t : Nat → Nat} (ht : Lin t) (a p : Nat) : ∀ n, ev t (iter t n a) p = iter t n (ev t a p)
  | 0 => rfl
  | n + 1 => by unfold iter; rw [ev_t ht, ev_iter ht a p n]

/-! ### products without reduction -/
theorem lin_dbl : Lin (2 * ·) := ⟨fun a b => by
  have h := Nat.shiftLeft_xor_distrib (a := a) (b := b) (i := 1)
  simp only [Nat.shiftLeft_eq, Nat.pow_one] at h
  rw [Nat.mul_comm 2, Nat.mul_comm 2, Nat.mul_comm 2]
  exact h⟩
def cm (d q : Nat) : Nat := ev (2 * ·) d q
theorem cm_one (p : Nat) : cm 1 p = p := by
  unfold cm
  induction p using Nat.strongRecOn with
  | _ p ih =>
    by_cases h : p = 0
    · subst h; exact ev_zero lin_dbl 1
    · rw [ev_eq lin_dbl, ih (p / 2) (by omega)]
      unfold bitM
      apply Nat.eq_of_testBit_eq
      intro i
      rw [Nat.testBit_xor]
      cases i with
      | zero => simp [Nat.testBit_zero]; rcases Nat.mod_two_eq_zero_or_one p with h | h <;> simp [h]
      | succ i =>
        rw [Nat.testBit_succ, Nat.testBit_succ, Nat.testBit_succ]
        rw [show 2 * (p / 2) / 2 = p / 2 by omega]
        split <;> simp
theorem cm_comm (d q : Nat) : cm d q = cm q d := by
  have h := ev_comm lin_dbl 1 d q
  have e := fun p => cm_one p
  unfold cm at e ⊢
  rw [e, e] at h
  exact h
theorem cm_xorR (d p q : Nat) : cm d (p ^^^ q) = cm d p ^^^ cm d q := ev_xorR lin_dbl d p q
theorem cm_shl (d q n : Nat) : cm d (q <<< n) = (cm d q) <<< n := by
  unfold cm
  rw [ev_shl lin_dbl]
  induction n with
  | zero => rfl
  | succ n ih => unfold iter; rw [ih, Nat.shiftLeft_succ]
def dvd (d p : Nat) : Prop := ∃ q, p = cm d q
theorem dvd_xor {d p q : Nat} (h : dvd d p) (k : dvd d q) : dvd d (p ^^^ q) := by
  obtain ⟨a, rfl⟩ := h; obtain ⟨b, rfl⟩ := k
  exact ⟨a ^^^ b, (cm_xorR _ _ _).symm⟩
theorem dvd_shl {d p : Nat} (h : dvd d p) (n : Nat) : dvd d (p <<< n) := by
  obtain ⟨a, rfl⟩ := h
  exact ⟨a <<< n, (cm_shl _ _ _).symm⟩
theorem dvd_refl (d : Nat) : dvd d d := ⟨1, (ev_1r lin_dbl d).symm⟩
theorem dvd_zero (d : Nat) : dvd d 0 := ⟨0, (ev_zero lin_dbl d).symm⟩

/-! ### degrees -/
/-- The number of bits. -/
def len (n : Nat) : Nat := if n = 0 then 0 else n.log2 + 1
theorem len_zero : len 0 = 0 := rfl
theorem lt_len (n : Nat) : n < 2 ^ len n := by
  unfold len
  split
  · rename_i h; subst h; decide
  · exact Nat.lt_log2_self
theorem len_le {n k : Nat} : len n ≤ k ↔ n < 2 ^ k := by
  unfold len
  split
  · rename_i h; subst h; simp [Nat.pow_pos]
  · rename_i h
    rw [Nat.add_one_le_iff]
    exact Nat.log2_lt h
theorem len_pos {n : Nat} : 0 < len n ↔ n ≠ 0 := by
  unfold len; split <;> simp_all
theorem le_len {n k : Nat} : k < len n ↔ 2 ^ k ≤ n := by
  have := len_le (n := n) (k := k)
  omega
theorem len_eq {n k : Nat} (h1 : 2 ^ k ≤ n) (h2 : n < 2 ^ (k + 1)) : len n = k + 1 := by
  have a := le_len.2 h1
  have b := len_le.2 h2
  omega
theorem len_bound {n : Nat} (h : n ≠ 0) : ∃ k, len n = k + 1 ∧ 2 ^ k ≤ n ∧ n < 2 ^ (k + 1) := by
  obtain ⟨k, hk⟩ : ∃ k, len n = k + 1 := ⟨len n - 1, by have := len_pos.2 h; omega⟩
  exact ⟨k, hk, le_len.1 (by omega), by rw [← hk]; exact lt_len n⟩
theorem top_bit {n k : Nat} (h1 : 2 ^ k ≤ n) (h2 : n < 2 ^ (k + 1)) : n.testBit k = true := by
  rw [Nat.pow_succ] at h2
  rw [Nat.testBit_eq_decide_div_mod_eq]
  have : n / 2 ^ k = 1 := by
    apply Nat.div_eq_of_lt_le
    · omega
    · omega
  rw [this]; rfl
theorem lt_of_bits {n k : Nat} (h : ∀ i, k ≤ i → n.testBit i = false) : n < 2 ^ k := Nat.lt_pow_two_of_testBit n fun i hi => h i hi
theorem high_bit {n k i : Nat} (h : n < 2 ^ k) (hi : k ≤ i) : n.testBit i = false := Nat.testBit_lt_two_pow (Nat.lt_of_lt_of_le h (Nat.pow_le_pow_right (by omega) hi))
theorem xor_top {a b k : Nat} (ha1 : 2 ^ k ≤ a) (ha2 : a < 2 ^ (k + 1)) (hb1 : 2 ^ k ≤ b) (hb2 : b < 2 ^ (k + 1)) : a ^^^ b < 2 ^ k := by
  apply lt_of_bits
  intro i hi
  rw [Nat.testBit_xor]
  by_cases h : i = k
  · subst h; rw [top_bit ha1 ha2, top_bit hb1 hb2]; rfl
  · rw [high_bit ha2 (by omega), high_bit hb2 (by omega)]; rfl
theorem xor_keep {a b k : Nat} (ha1 : 2 ^ k ≤ a) (ha2 : a < 2 ^ (k + 1)) (hb : b < 2 ^ k) : 2 ^ k ≤ a ^^^ b ∧ a ^^^ b < 2 ^ (k + 1) := by
  have h2 : a ^^^ b < 2 ^ (k + 1) := Nat.xor_lt_two_pow ha2 (by rw [Nat.pow_succ]; omega)
  refine ⟨?_, h2⟩
  have : (a ^^^ b).testBit k = true := by rw [Nat.testBit_xor, top_bit ha1 ha2, high_bit hb (Nat.le_refl _)]; rfl
  exact Nat.ge_two_pow_of_testBit this
theorem shl_bounds {n k s : Nat} (h1 : 2 ^ k ≤ n) (h2 : n < 2 ^ (k + 1)) : 2 ^ (k + s) ≤ n <<< s ∧ n <<< s < 2 ^ (k + s + 1) := by
  rw [Nat.shiftLeft_eq, Nat.pow_add, show k + s + 1 = (k + 1) + s by omega, Nat.pow_add]
  exact ⟨Nat.mul_le_mul_right _ h1, Nat.mul_lt_mul_of_pos_right h2 (Nat.pow_pos (by omega))⟩
theorem len_xor (a b : Nat) : len (a ^^^ b) ≤ max (len a) (len b) := by
  rw [len_le]
  exact Nat.xor_lt_two_pow (Nat.lt_of_lt_of_le (lt_len a) (Nat.pow_le_pow_right (by omega) (Nat.le_max_left _ _))) (Nat.lt_of_lt_of_le (lt_len b) (Nat.pow_le_pow_right (by omega) (Nat.le_max_right _ _)))
theorem len_shl (n s : Nat) : len (n <<< s) ≤ len n + s := by
  rw [len_le, Nat.shiftLeft_eq, Nat.pow_add]
  exact Nat.mul_lt_mul_of_pos_right (lt_len n) (Nat.pow_pos (by omega))
/-- One step of a division: the top bit goes. -/
theorem len_step {u v : Nat} (hv : v ≠ 0) (hle : len v ≤ len u) : len (u ^^^ (v <<< (len u - len v))) < len u := by
  obtain ⟨k, hk, k1, k2⟩ := len_bound hv
  have hu : u ≠ 0 := by
    intro h; subst h; rw [len_zero] at hle; omega
  obtain ⟨j, hj, j1, j2⟩ := len_bound hu
  rw [hj, hk] at hle
  rw [hj, hk]
  have hkj : k + (j + 1 - (k + 1)) = j := by omega
  have := shl_bounds (s := j + 1 - (k + 1)) k1 k2
  rw [hkj] at this
  have h := xor_top j1 j2 this.1 this.2
  have := len_le.2 h
  omega
theorem cm_len {d : Nat} (hd : d ≠ 0) : ∀ {q : Nat}, q ≠ 0 → len (cm d q) + 1 = len d + len q := by
  intro q
  obtain ⟨k, hk, k1, k2⟩ := len_bound hd
  induction q using Nat.strongRecOn with
  | _ q ih =>
    intro hq
    unfold cm at ih ⊢
    rw [ev_eq lin_dbl]
    by_cases h : q / 2 = 0
    · obtain rfl : q = 1 := by omega
      rw [h, ev_zero lin_dbl, show len 1 = 1 from rfl]
      simp [bitM]
    · have e := ih (q / 2) (by omega) h
      obtain ⟨j, hj, j1, j2⟩ := len_bound h
      have hq2 : len q = j + 2 := by
        rw [Nat.pow_succ] at j2
        exact len_eq (by rw [Nat.pow_succ]; omega) (by rw [Nat.pow_succ, Nat.pow_succ]; omega)
      rw [hj, hk] at e
      have hne : ev (2 * ·) d (q / 2) ≠ 0 := by
        intro h0; rw [h0, len_zero] at e; omega
      obtain ⟨i, hi, i1, i2⟩ := len_bound hne
      rw [hi] at e
      obtain rfl : i = k + j := by omega
      have hb : bitM q d < 2 ^ (k + j + 1) := by
        unfold bitM
        split
        · exact Nat.lt_of_lt_of_le k2 (Nat.pow_le_pow_right (by omega) (by omega))
        · exact Nat.pow_pos (by omega)
      have h3 := xor_keep (a := 2 * ev (2 * ·) d (q / 2)) (k := k + j + 1) (by rw [Nat.pow_succ]; omega) (by rw [Nat.pow_succ]; omega) hb
      rw [len_eq h3.1 h3.2, hq2, hk]
      omega
theorem dvd_len {d p : Nat} (h : dvd d p) (hp : p ≠ 0) : len d ≤ len p := by
  obtain ⟨q, rfl⟩ := h
  have hd : d ≠ 0 := by
    intro h; subst h; exact hp (ev_0l lin_dbl q)
  have hq : q ≠ 0 := by
    intro h; subst h; exact hp (ev_zero lin_dbl d)
  have := cm_len hd hq
  have := len_pos.2 hq
  omega

/-! ### no divisors -/
/-- What is left of p by d: i steps. -/
def pm (d : Nat) : Nat → Nat → Nat
  | 0, p => p
  | i + 1, p => if len p < len d then p else pm d i (p ^^^ (d <<< (len p - len d)))
theorem dvd_pm {d : Nat} : ∀ {i p : Nat}, dvd d p → dvd d (pm d i p)
  | 0, _, h => h
  | i + 1, p, h => by
    unfold pm
    split
    · exact h
    · exact dvd_pm (dvd_xor h (dvd_shl (dvd_refl d) _))
theorem not_dvd_of {d p i : Nat} (h0 : pm d i p ≠ 0) (h1 : len (pm d i p) < len d) : ¬ dvd d p := fun h => by
  have := dvd_len (dvd_pm (i := i) h) h0
  omega
/-- A polynomial that no other one divides. -/
def Irr (P : Nat) : Prop := ∀ d, dvd d P → d = 1 ∨ len d = len P
def irrB (P i : Nat) : Bool := (List.range (2 ^ (len P / 2 + 1))).all fun d => decide (d ≤ 1) || (decide (pm d i P ≠ 0) && decide (len (pm d i P) < len d))
theorem irr_of {P i : Nat} (hP : P ≠ 0) (h : irrB P i = true) : Irr P := by
  have key : ∀ d, d ≤ 1 ∨ 2 ^ (len P / 2 + 1) ≤ d ∨ ¬ dvd d P := by
    intro d
    by_cases hd : d < 2 ^ (len P / 2 + 1)
    · have := List.all_eq_true.1 h d (List.mem_range.2 hd)
      simp only [Bool.or_eq_true, decide_eq_true_eq, Bool.and_eq_true] at this
      rcases this with h | ⟨h1, h2⟩
      · exact .inl h
      · exact .inr (.inr (not_dvd_of h1 h2))
    · exact .inr (.inl (by omega))
  intro d hd
  obtain ⟨q, hq⟩ := hd
  have hd0 : d ≠ 0 := by
    intro h; subst h; exact hP (hq.trans (ev_0l lin_dbl q))
  have hq0 : q ≠ 0 := by
    intro h; subst h; exact hP (hq.trans (ev_zero lin_dbl d))
  have hl := cm_len hd0 hq0
  rw [← hq] at hl
  rcases key d with h1 | h1 | h1
  · left; omega
  · rcases key q with h2 | h2 | h2
    · obtain rfl : q = 1 := by omega
      right
      have : len 1 = 1 := rfl
      omega
    · have a := le_len.2 h1
      have b := le_len.2 h2
      omega
    · exact absurd ⟨d, by rw [cm_comm]; exact hq⟩ h2
  · exact absurd ⟨q, hq⟩ h1
end Go.GF
