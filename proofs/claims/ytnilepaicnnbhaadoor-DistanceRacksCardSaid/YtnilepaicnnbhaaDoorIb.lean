/- The fields with 2^8 and 2^16 elements: products and inverses. It speaks of no program. -/
import Derived.Test.YtnilepaicnnbhaaDoorIa
namespace Go.GF

/-- Times x, modulo P, a polynomial of degree m. -/
def xt (m P a : Nat) : Nat := if (2 * a).testBit m = true then (2 * a) ^^^ P else 2 * a
theorem lin_xt (m P : Nat) : Lin (xt m P) := ⟨fun a b => by
  unfold xt
  have h : 2 * (a ^^^ b) = 2 * a ^^^ 2 * b := lin_dbl.xor a b
  rw [h, Nat.testBit_xor]
  cases (2 * a).testBit m <;> cases (2 * b).testBit m <;> simp
  · rw [← Nat.xor_assoc]
  · rw [Nat.xor_assoc, Nat.xor_assoc, Nat.xor_comm P]
  · rw [xor4, Nat.xor_self, Nat.xor_zero]⟩
structure Fld (m P : Nat) : Prop where
  pos : 1 ≤ m
  lo : 2 ^ m ≤ P
  hi : P < 2 ^ (m + 1)
  irr : Irr P
abbrev evX (m P a p : Nat) : Nat := ev (xt m P) a p
def red (m P p : Nat) : Nat := evX m P 1 p
def mul (m P a b : Nat) : Nat := evX m P a b
section
variable {m P : Nat}
theorem xt_lt (hF : Fld m P) {a : Nat} (h : a < 2 ^ m) : xt m P a < 2 ^ m := by
  unfold xt
  have h2 : 2 * a < 2 ^ (m + 1) := by rw [Nat.pow_succ]; omega
  split
  · rename_i h1
    exact xor_top (Nat.ge_two_pow_of_testBit h1) h2 hF.lo hF.hi
  · rename_i h1
    by_cases h3 : 2 * a < 2 ^ m
    · exact h3
    · exact absurd (top_bit (by omega) h2) h1
/-- As the program has it. -/
theorem xt_if {a : Nat} (h : a < 2 ^ m) : xt m P a = if 2 ^ m ≤ 2 * a then (2 * a) ^^^ P else 2 * a := by
  unfold xt
  have h2 : 2 * a < 2 ^ (m + 1) := by rw [Nat.pow_succ]; omega
  by_cases h1 : 2 ^ m ≤ 2 * a
  · rw [if_pos h1, if_pos (top_bit h1 h2)]
  · rw [if_neg h1, if_neg (by rw [high_bit (Nat.lt_of_not_le h1) (Nat.le_refl _)]; simp)]
theorem ev_lt (hF : Fld m P) {a : Nat} (h : a < 2 ^ m) (p : Nat) : evX m P a p < 2 ^ m := by
  induction p using Nat.strongRecOn with
  | _ p ih =>
    by_cases h0 : p = 0
    · subst h0; rw [evX, ev_zero (lin_xt m P)]; exact Nat.pow_pos (by omega)
    · rw [evX, ev_eq (lin_xt m P)]
      refine Nat.xor_lt_two_pow (xt_lt hF (ih (p / 2) (by omega))) ?_
      unfold bitM
      split
      · exact h
      · exact Nat.pow_pos (by omega)
theorem one_lt (hF : Fld m P) : 1 < 2 ^ m := by
  have := Nat.pow_le_pow_right (n := 2) (by omega) hF.pos
  omega
theorem red_lt (hF : Fld m P) (p : Nat) : red m P p < 2 ^ m := ev_lt hF (one_lt hF) p
theorem red_zero : red m P 0 = 0 := ev_zero (lin_xt m P) 1
theorem red_xor (p q : Nat) : red m P (p ^^^ q) = red m P p ^^^ red m P q := ev_xorR (lin_xt m P) 1 p q
theorem red_small {p : Nat} (h : p < 2 ^ m) : red m P p = p := by
  induction p using Nat.strongRecOn with
  | _ p ih =>
    by_cases h0 : p = 0
    · subst h0; exact red_zero
    · unfold red evX at *
      rw [ev_eq (lin_xt m P), ih (p / 2) (by omega) (by omega), xt_if (by omega), if_neg (by omega)]
      have := ev_eq lin_dbl 1 p
      have e := cm_one p
      have e2 := cm_one (p / 2)
      unfold cm at e e2
      rw [e, e2] at this
      exact this.symm
theorem red_dbl (p : Nat) : red m P (2 * p) = xt m P (red m P p) := ev_dbl (lin_xt m P) 1 p
theorem red_mod (hF : Fld m P) : red m P P = 0 := by
  have h1 : red m P (2 ^ m) = 2 ^ m ^^^ P := by
    obtain ⟨k, rfl⟩ : ∃ k, m = k + 1 := ⟨m - 1, by have := hF.pos; omega⟩
    rw [Nat.pow_succ, Nat.mul_comm, red_dbl, red_small (by rw [Nat.pow_succ]; have := Nat.pow_pos (n := k) (show 0 < 2 by omega); omega), xt_if (by rw [Nat.pow_succ]; have := Nat.pow_pos (n := k) (show 0 < 2 by omega); omega)]
    rw [if_pos (by rw [Nat.pow_succ]; omega)]
  have h2 : P ^^^ 2 ^ m < 2 ^ m := xor_top hF.lo hF.hi (Nat.le_refl _) (by rw [Nat.pow_succ]; have := Nat.pow_pos (n := m) (show 0 < 2 by omega); omega)
  have h3 : P = (P ^^^ 2 ^ m) ^^^ 2 ^ m := by rw [Nat.xor_assoc, Nat.xor_self, Nat.xor_zero]
  have h4 : red m P P = red m P ((P ^^^ 2 ^ m) ^^^ 2 ^ m) := congrArg (red m P) h3
  rw [h4, red_xor, red_small h2, h1, Nat.xor_comm P, Nat.xor_self]
theorem mul_lt (hF : Fld m P) {a : Nat} (h : a < 2 ^ m) (b : Nat) : mul m P a b < 2 ^ m := ev_lt hF h b
theorem mul_xorR (a b c : Nat) : mul m P a (b ^^^ c) = mul m P a b ^^^ mul m P a c := ev_xorR (lin_xt m P) a b c
theorem mul_xorL (a b c : Nat) : mul m P (a ^^^ b) c = mul m P a c ^^^ mul m P b c := ev_xorL (lin_xt m P) a b c
theorem mul_zero (a : Nat) : mul m P a 0 = 0 := ev_zero (lin_xt m P) a
theorem zero_mul (a : Nat) : mul m P 0 a = 0 := ev_0l (lin_xt m P) a
theorem mul_one (a : Nat) : mul m P a 1 = a := ev_1r (lin_xt m P) a
theorem one_mul {a : Nat} (h : a < 2 ^ m) : mul m P 1 a = a := red_small h
theorem ev_red {a : Nat} (h : a < 2 ^ m) (p : Nat) : evX m P a p = mul m P (red m P p) a := by
  have := ev_comm (lin_xt m P) 1 a p
  have e : ev (xt m P) 1 a = a := red_small h
  rw [e] at this
  exact this
theorem mul_comm {a b : Nat} (ha : a < 2 ^ m) (hb : b < 2 ^ m) : mul m P a b = mul m P b a := by
  have := ev_red (m := m) (P := P) ha b
  rw [red_small hb] at this
  exact this
theorem mul_right (a b c : Nat) : mul m P (mul m P a b) c = mul m P (mul m P a c) b := ev_comm (lin_xt m P) a b c
theorem mul_assoc (hF : Fld m P) {a b c : Nat} (ha : a < 2 ^ m) (hb : b < 2 ^ m) (_hc : c < 2 ^ m) : mul m P (mul m P a b) c = mul m P a (mul m P b c) := by
  rw [mul_comm ha hb, mul_right, mul_comm (mul_lt hF hb c) ha]
theorem ev_mul_red {a : Nat} (hF : Fld m P) (h : a < 2 ^ m) (p : Nat) : evX m P a p = mul m P a (red m P p) := by
  rw [ev_red h, mul_comm (red_lt hF p) h]

/-! ### the algorithm of Euclid -/
structure EucI (m P A u v x y : Nat) : Prop where
  ix : evX m P A x = red m P u
  iy : evX m P A y = red m P v
  cop : ∀ d, dvd d u → dvd d v → d = 1
  lx : len x + len v ≤ m + 2
  ly : len y + len u ≤ m + 2
  lu : len u ≤ m + 1
  lv : len v ≤ m + 1
theorem len_P (hF : Fld m P) : len P = m + 1 := len_eq hF.lo hF.hi
theorem EucI.start (hF : Fld m P) {A : Nat} (h0 : A ≠ 0) (h : A < 2 ^ m) : EucI m P A A P 1 0 := by
  have hl := len_P hF
  have ha := len_le.2 h
  refine ⟨?_, ?_, fun d h1 h2 => ?_, ?_, ?_, by omega, by omega⟩
  · rw [evX, ev_1r (lin_xt m P), red_small h]
  · rw [evX, ev_zero (lin_xt m P), red_mod hF]
  · rcases hF.irr d h2 with h | h
    · exact h
    · have := dvd_len h1 h0
      omega
  · have : len 1 = 1 := rfl
    omega
  · rw [len_zero]; omega
theorem EucI.swap {A u v x y : Nat} (h : EucI m P A u v x y) : EucI m P A v u y x := ⟨h.iy, h.ix, fun d a b => h.cop d b a, h.ly, h.lx, h.lv, h.lu⟩
theorem EucI.sub {A u v x y : Nat} (h : EucI m P A u v x y) (hle : len v ≤ len u) (hs : len (u ^^^ (v <<< (len u - len v))) ≤ len u) :
    EucI m P A (u ^^^ (v <<< (len u - len v))) v (x ^^^ (y <<< (len u - len v))) y := by
  generalize he : len u - len v = s at *
  refine ⟨?_, h.iy, fun d a b => h.cop d ?_ b, ?_, ?_, ?_, h.lv⟩
  · rw [evX, ev_xorR (lin_xt m P), ev_shl (lin_xt m P), red_xor]
    have h1 := h.ix
    have h2 := h.iy
    unfold evX at h1 h2
    rw [h1, h2]
    congr 1
    unfold red evX
    rw [ev_shl (lin_xt m P)]
  · have := dvd_xor a (dvd_shl b s)
    rwa [Nat.xor_assoc, Nat.xor_self, Nat.xor_zero] at this
  · have h1 := len_xor x (y <<< s)
    have h2 := len_shl y s
    have h3 := h.lx
    have h4 := h.ly
    rcases Nat.le_total (len x) (len (y <<< s)) with h5 | h5
    · rw [Nat.max_eq_right h5] at h1; omega
    · rw [Nat.max_eq_left h5] at h1; omega
  · have := h.ly; omega
  · have := h.lu; omega
def eucM (u v : Nat) : Nat := 2 * (len u + len v) + if u = 1 then 0 else 1
theorem EucI.zero {A u x y : Nat} (h : EucI m P A u 0 x y) : u = 1 := h.cop u (dvd_refl u) (dvd_zero u)
/-- A round without an exchange. -/
theorem EucI.step {A u v x y : Nat} (h : EucI m P A u v x y) (hu : u ≠ 1) (hle : len v ≤ len u) :
    EucI m P A (u ^^^ (v <<< (len u - len v))) v (x ^^^ (y <<< (len u - len v))) y ∧ eucM (u ^^^ (v <<< (len u - len v))) v < eucM u v := by
  have hv : v ≠ 0 := by
    intro e; subst e; exact hu h.zero
  have hl := len_step hv hle
  refine ⟨h.sub hle (by omega), ?_⟩
  unfold eucM
  rw [if_neg hu]
  split <;> omega
/-- A round with an exchange. -/
theorem EucI.step' {A u v x y : Nat} (h : EucI m P A u v x y) (hu : u ≠ 1) (hlt : len u < len v) :
    EucI m P A (v ^^^ (u <<< (len v - len u))) u (y ^^^ (x <<< (len v - len u))) x ∧ eucM (v ^^^ (u <<< (len v - len u))) u < eucM u v := by
  by_cases h0 : u = 0
  · subst h0
    have hv := h.swap.zero
    subst hv
    have e : (1 : Nat) ^^^ (0 <<< (len 1 - len 0)) = 1 := by simp
    refine ⟨h.swap.sub (by omega) (by rw [e]; exact Nat.le_refl _), ?_⟩
    rw [e]
    decide
  · have hl := len_step h0 (Nat.le_of_lt hlt)
    refine ⟨h.swap.sub (by omega) (by omega), ?_⟩
    unfold eucM
    rw [if_neg hu]
    split <;> omega
theorem EucI.done {A v x y : Nat} (hF : Fld m P) (hA : A < 2 ^ m) (h : EucI m P A 1 v x y) : mul m P A (red m P x) = 1 := by
  rw [← ev_mul_red hF hA, h.ix, red_small (one_lt hF)]
theorem EucI.xlt {A u v x y : Nat} (h : EucI m P A u v x y) : x < 2 ^ (m + 2) := len_le.1 (by have := h.lx; omega)
theorem EucI.ult {A u v x y : Nat} (h : EucI m P A u v x y) : u < 2 ^ (m + 1) := len_le.1 h.lu
/-- One step of a reduction. -/
theorem red_step (hF : Fld m P) {a : Nat} (h : m < len a) : red m P (a ^^^ (P <<< (len a - 1 - m))) = red m P a ∧ len (a ^^^ (P <<< (len a - 1 - m))) < len a := by
  have hP : P ≠ 0 := by have := hF.lo; have := Nat.pow_pos (n := m) (show 0 < 2 by omega); omega
  have hl := len_P hF
  constructor
  · rw [red_xor]
    have : red m P (P <<< (len a - 1 - m)) = 0 := by
      unfold red evX
      rw [ev_shl (lin_xt m P)]
      have h0 : ev (xt m P) 1 P = 0 := red_mod hF
      rw [h0, iter_zero (lin_xt m P)]
    rw [this, Nat.xor_zero]
  · have := len_step hP (u := a) (by omega)
    rw [hl] at this
    rw [show len a - 1 - m = len a - (m + 1) by omega]
    exact this
theorem inv_unique (hF : Fld m P) {a r s : Nat} (ha : a < 2 ^ m) (hr : r < 2 ^ m) (hs : s < 2 ^ m) (h1 : mul m P a r = 1) (h2 : mul m P a s = 1) : r = s := by
  have : mul m P (mul m P r a) s = mul m P r (mul m P a s) := mul_assoc hF hr ha hs
  rw [mul_comm hr ha, h1, h2, mul_one, one_mul hs] at this
  exact this.symm
end
open Classical in
/-- The inverse. -/
noncomputable def inv (m P a : Nat) : Nat := if h : ∃ r, r < 2 ^ m ∧ mul m P a r = 1 then choose h else 0
theorem inv_of {m P a r : Nat} (hF : Fld m P) (ha : a < 2 ^ m) (hr : r < 2 ^ m) (h : mul m P a r = 1) : inv m P a = r := by
  unfold inv
  have hex : ∃ r, r < 2 ^ m ∧ mul m P a r = 1 := ⟨r, hr, h⟩
  rw [dif_pos hex]
  have := Classical.choose_spec hex
  exact inv_unique hF ha this.1 hr this.2 h
/-- Rounds of the algorithm end: there is an inverse. -/
theorem euc_ends {m P A : Nat} (hF : Fld m P) (hA : A < 2 ^ m) : ∀ {k u v x y : Nat}, eucM u v ≤ k → EucI m P A u v x y → ∃ r, r < 2 ^ m ∧ mul m P A r = 1 := by
  intro k
  induction k with
  | zero =>
    intro u v x y hk h
    by_cases hu : u = 1
    · subst hu; exact ⟨_, red_lt hF x, h.done hF hA⟩
    · unfold eucM at hk; rw [if_neg hu] at hk; omega
  | succ k ih =>
    intro u v x y hk h
    by_cases hu : u = 1
    · subst hu; exact ⟨_, red_lt hF x, h.done hF hA⟩
    · by_cases hl : len v ≤ len u
      · obtain ⟨h1, h2⟩ := h.step hu hl
        exact ih (by omega) h1
      · obtain ⟨h1, h2⟩ := h.step' hu (by omega)
        exact ih (by omega) h1
theorem inv_spec {m P a : Nat} (hF : Fld m P) (h0 : a ≠ 0) (ha : a < 2 ^ m) : inv m P a < 2 ^ m ∧ mul m P a (inv m P a) = 1 := by
  obtain ⟨r, hr, h⟩ := euc_ends hF ha (Nat.le_refl _) (EucI.start hF h0 ha)
  rw [inv_of hF ha hr h]
  exact ⟨hr, h⟩
def modP (m : Nat) : Nat := if m = 8 then 0x11d else 0x1100b
set_option maxRecDepth 100000 in
theorem fld8 : Fld 8 0x11d := ⟨by decide, by decide, by decide, irr_of (i := 20) (by decide) (by decide +kernel)⟩
set_option maxRecDepth 100000 in
theorem fld16 : Fld 16 0x1100b := ⟨by decide, by decide, by decide, irr_of (i := 20) (by decide) (by decide +kernel)⟩
end Go.GF
