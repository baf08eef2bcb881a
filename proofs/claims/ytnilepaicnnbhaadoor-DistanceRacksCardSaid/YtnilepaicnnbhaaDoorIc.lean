/- Matrices over a finite field, brought into reduced form: plain laws. They speak of no program. -/
import Derived.Test.YtnilepaicnnbhaaDoorIb
namespace Go.GF

/-! ### the operations of a field -/
structure Ops (q : Nat) (mul : Nat → Nat → Nat) (inv : Nat → Nat) : Prop where
  pow : ∃ m, q = 2 ^ m
  lt : ∀ a b, a < q → b < q → mul a b < q
  comm : ∀ a b, a < q → b < q → mul a b = mul b a
  assoc : ∀ a b c, a < q → b < q → c < q → mul (mul a b) c = mul a (mul b c)
  xorR : ∀ a b c, a < q → b < q → c < q → mul a (b ^^^ c) = mul a b ^^^ mul a c
  zero : ∀ a, a < q → mul a 0 = 0
  one : ∀ a, a < q → mul a 1 = a
  one_lt : 1 < q
  invs : ∀ a, a < q → a ≠ 0 → inv a < q ∧ mul a (inv a) = 1
section
variable {q : Nat} {mul : Nat → Nat → Nat} {inv : Nat → Nat}
theorem Ops.xor_lt (h : Ops q mul inv) {a b : Nat} (ha : a < q) (hb : b < q) : a ^^^ b < q := by
  obtain ⟨m, rfl⟩ := h.pow
  exact Nat.xor_lt_two_pow ha hb
theorem Ops.zl (h : Ops q mul inv) {a : Nat} (ha : a < q) : mul 0 a = 0 := by
  rw [h.comm 0 a (by have := h.one_lt; omega) ha, h.zero a ha]
theorem Ops.ol (h : Ops q mul inv) {a : Nat} (ha : a < q) : mul 1 a = a := by
  rw [h.comm 1 a h.one_lt ha, h.one a ha]
theorem Ops.xorL (h : Ops q mul inv) {a b c : Nat} (ha : a < q) (hb : b < q) (hc : c < q) : mul (a ^^^ b) c = mul a c ^^^ mul b c := by
  rw [h.comm _ c (h.xor_lt ha hb) hc, h.xorR c a b hc ha hb, h.comm c a hc ha, h.comm c b hc hb]
theorem Ops.pos (h : Ops q mul inv) : 0 < q := by have := h.one_lt; omega
/-! ### sums -/
def xs : Nat → (Nat → Nat) → Nat
  | 0, _ => 0
  | n + 1, f => xs n f ^^^ f n
theorem xs_congr {f g : Nat → Nat} : ∀ {n : Nat}, (∀ i, i < n → f i = g i) → xs n f = xs n g
  | 0, _ => rfl
  | n + 1, h => by unfold xs; rw [xs_congr fun i hi => h i (by omega), h n (by omega)]
theorem xs_zero : ∀ n : Nat, xs n (fun _ => 0) = 0
  | 0 => rfl
  | n + 1 => by unfold xs; rw [xs_zero n]; simp
theorem xs_xor (f g : Nat → Nat) : ∀ n : Nat, xs n (fun i => f i ^^^ g i) = xs n f ^^^ xs n g
  | 0 => by simp [xs]
  | n + 1 => by unfold xs; rw [xs_xor f g n, xor4]
theorem xs_lt (h : Ops q mul inv) {f : Nat → Nat} : ∀ {n : Nat}, (∀ i, i < n → f i < q) → xs n f < q
  | 0, _ => h.pos
  | n + 1, hf => by unfold xs; exact h.xor_lt (xs_lt h fun i hi => hf i (by omega)) (hf n (by omega))
theorem xs_mul (h : Ops q mul inv) {a : Nat} (ha : a < q) {f : Nat → Nat} : ∀ {n : Nat}, (∀ i, i < n → f i < q) → mul a (xs n f) = xs n fun i => mul a (f i)
  | 0, _ => h.zero a ha
  | n + 1, hf => by
    unfold xs
    rw [h.xorR a _ _ ha (xs_lt h fun i hi => hf i (by omega)) (hf n (by omega)), xs_mul h ha fun i hi => hf i (by omega)]
theorem xs_one {f : Nat → Nat} {k : Nat} : ∀ {n : Nat}, k < n → (∀ i, i < n → i ≠ k → f i = 0) → xs n f = f k
  | 0, h, _ => absurd h (by omega)
  | n + 1, hk, hf => by
    unfold xs
    by_cases e : k = n
    · subst e
      rw [xs_congr (g := fun _ => 0) fun i hi => hf i (by omega) (by omega), xs_zero, Nat.zero_xor]
    · rw [xs_one (k := k) (by omega) fun i hi hne => hf i (by omega) hne, hf n (by omega) (fun e2 => e e2.symm), Nat.xor_zero]
/-- One summand by itself. -/
theorem xs_pick {f : Nat → Nat} {k n : Nat} (hk : k < n) : xs n f = f k ^^^ xs n fun i => if i = k then 0 else f i := by
  have h1 : xs n f = xs n fun i => (if i = k then f i else 0) ^^^ (if i = k then 0 else f i) := xs_congr fun i _ => by split <;> simp
  have h2 : xs n (fun i => if i = k then f i else 0) = f k := by
    rw [xs_one (k := k) hk fun i _ hne => by rw [if_neg hne], if_pos rfl]
  rw [h1, xs_xor, h2]
/-- A permuted sum: two places exchanged. -/
theorem xs_swap {f : Nat → Nat} {a b n : Nat} (ha : a < n) (hb : b < n) : xs n (fun i => f (if i = a then b else if i = b then a else i)) = xs n f := by
  by_cases e : a = b
  · subst e
    exact xs_congr fun i _ => by
      by_cases h : i = a
      · rw [if_pos h, h]
      · rw [if_neg h, if_neg h]
  rw [xs_pick ha, xs_pick (f := fun i => if i = a then 0 else f (if i = a then b else if i = b then a else i)) hb]
  rw [xs_pick (f := f) ha, xs_pick (f := fun i => if i = a then 0 else f i) hb]
  simp only [if_true, if_neg (Ne.symm e)]
  rw [← Nat.xor_assoc, ← Nat.xor_assoc, Nat.xor_comm (f b)]
  congr 1
  refine xs_congr fun i _ => ?_
  by_cases h1 : i = b
  · rw [if_pos h1, if_pos h1]
  · rw [if_neg h1, if_neg h1]
    by_cases h2 : i = a
    · rw [if_pos h2, if_pos h2, ite_self]
    · rw [if_neg h2, if_neg h2, if_neg h2, if_neg h1]

/-! ### matrices -/
abbrev Mat := Nat → Nat → Nat
/-- No sum of multiples of the rows is zero but the trivial one. -/
def Indep (q : Nat) (mul : Nat → Nat → Nat) (R C : Nat) (M : Mat) : Prop :=
  ∀ c : Nat → Nat, (∀ i, i < R → c i < q) → (∀ j, j < C → xs R (fun i => mul (c i) (M i j)) = 0) → ∀ i, i < R → c i = 0
def swapM (M : Mat) (a b : Nat) : Mat := fun i => M (if i = a then b else if i = b then a else i)
def scaleM (mul : Nat → Nat → Nat) (M : Mat) (r f : Nat) : Mat := fun i j => if i = r then mul f (M r j) else M i j
def addM (mul : Nat → Nat → Nat) (M : Mat) (i r g : Nat) : Mat := fun i' j => if i' = i then M i j ^^^ mul g (M r j) else M i' j
def Bnd (q R C : Nat) (M : Mat) : Prop := ∀ i, i < R → ∀ j, j < C → M i j < q
theorem sw_lt {a b i R : Nat} (ha : a < R) (hb : b < R) (hi : i < R) : (if i = a then b else if i = b then a else i) < R := by split <;> (try split) <;> omega
theorem sw_sw (a b i : Nat) : (if (if i = a then b else if i = b then a else i) = a then b else if (if i = a then b else if i = b then a else i) = b then a else (if i = a then b else if i = b then a else i)) = i := by
  by_cases h1 : i = a
  · subst h1
    rw [if_pos rfl]
    by_cases h2 : b = i
    · rw [if_pos h2, h2]
    · rw [if_neg h2, if_pos rfl]
  · by_cases h2 : i = b
    · rw [if_neg h1, if_pos h2, if_pos rfl, h2]
    · rw [if_neg h1, if_neg h2, if_neg h1, if_neg h2]
theorem swap_swap (M : Mat) (a b : Nat) : swapM (swapM M a b) a b = M := by
  funext i
  unfold swapM
  rw [sw_sw]
theorem bnd_swap {R C a b : Nat} {M : Mat} (h : Bnd q R C M) (ha : a < R) (hb : b < R) : Bnd q R C (swapM M a b) := fun _ hi j hj => h _ (sw_lt ha hb hi) j hj
theorem indep_swap {R C a b : Nat} {M : Mat} (ha : a < R) (hb : b < R) (h : Indep q mul R C M) : Indep q mul R C (swapM M a b) := by
  intro c hc hz i hi
  have := h (fun i => c (if i = a then b else if i = b then a else i)) (fun i hi => hc _ (sw_lt ha hb hi)) (fun j hj => by
    rw [← hz j hj, ← xs_swap (f := fun i => mul (c i) (swapM M a b i j)) ha hb]
    refine xs_congr fun i _ => ?_
    simp only [swapM]
    rw [sw_sw]) (if i = a then b else if i = b then a else i) (sw_lt ha hb hi)
  simp only [sw_sw] at this
  exact this
theorem indep_swap_iff {R C a b : Nat} {M : Mat} (ha : a < R) (hb : b < R) : Indep q mul R C (swapM M a b) ↔ Indep q mul R C M :=
  ⟨fun h => by have := indep_swap ha hb h; rwa [swap_swap] at this, indep_swap ha hb⟩
/-- Rows times nothing but one. -/
theorem indep_scale (h : Ops q mul inv) {R C r f x : Nat} {M : Mat} (hr : r < R) (hf : f < q) (hx : x < q) (hfx : mul f x = 1) (hM : Bnd q R C M) (hI : Indep q mul R C M) : Indep q mul R C (scaleM mul M r f) := by
  intro c hc hz i hi
  have h1 := hI (fun i => if i = r then mul (c r) f else c i) (fun i hi => by split; exact h.lt _ _ (hc r hr) hf; exact hc i hi) (fun j hj => by
    rw [← hz j hj]
    refine xs_congr fun i hi => ?_
    unfold scaleM
    by_cases e : i = r
    · subst e
      simp only [if_true]
      exact h.assoc _ _ _ (hc i hi) hf (hM i hi j hj)
    · simp only [if_neg e]) i hi
  by_cases e : i = r
  · subst e
    simp only [if_true] at h1
    have h2 : mul (mul (c i) f) x = c i := by rw [h.assoc _ _ _ (hc i hi) hf hx, hfx, h.one _ (hc i hi)]
    rw [← h2, h1, h.zl hx]
  · simp only [if_neg e] at h1
    exact h1
theorem scale_scale (h : Ops q mul inv) {R C r f x : Nat} {M : Mat} (hf : f < q) (hx : x < q) (hfx : mul f x = 1) (hM : Bnd q R C M) : ∀ i, i < R → ∀ j, j < C → scaleM mul (scaleM mul M r f) r x i j = M i j := by
  intro i hi j hj
  unfold scaleM
  by_cases e : i = r
  · subst e
    simp only [if_true]
    rw [← h.assoc x f _ hx hf (hM i hi j hj), h.comm x f hx hf, hfx, h.ol (hM i hi j hj)]
  · simp only [if_neg e]
theorem indep_congr {R C : Nat} {M M' : Mat} (he : ∀ i, i < R → ∀ j, j < C → M i j = M' i j) (h : Indep q mul R C M) : Indep q mul R C M' := by
  intro c hc hz
  exact h c hc fun j hj => by
    rw [← hz j hj]
    exact xs_congr fun i hi => by rw [he i hi j hj]
theorem bnd_scale (h : Ops q mul inv) {R C r f : Nat} {M : Mat} (hr : r < R) (hf : f < q) (hM : Bnd q R C M) : Bnd q R C (scaleM mul M r f) := by
  intro i hi j hj
  unfold scaleM
  split
  · exact h.lt _ _ hf (hM r hr j hj)
  · exact hM i hi j hj
theorem indep_scale_iff (h : Ops q mul inv) {R C r f x : Nat} {M : Mat} (hr : r < R) (hf : f < q) (hx : x < q) (hfx : mul f x = 1) (hM : Bnd q R C M) : Indep q mul R C (scaleM mul M r f) ↔ Indep q mul R C M :=
  ⟨fun hI => indep_congr (scale_scale h hf hx hfx hM) (indep_scale h hr hx hf (by rw [h.comm x f hx hf]; exact hfx) (bnd_scale h hr hf hM) hI), indep_scale h hr hf hx hfx hM⟩
theorem bnd_add (h : Ops q mul inv) {R C i r g : Nat} {M : Mat} (hi : i < R) (hr : r < R) (hg : g < q) (hM : Bnd q R C M) : Bnd q R C (addM mul M i r g) := by
  intro i' hi' j hj
  unfold addM
  split
  · exact h.xor_lt (hM i hi j hj) (h.lt _ _ hg (hM r hr j hj))
  · exact hM i' hi' j hj
theorem indep_add (h : Ops q mul inv) {R C i r g : Nat} {M : Mat} (hi : i < R) (hr : r < R) (hne : i ≠ r) (hg : g < q) (hM : Bnd q R C M) (hI : Indep q mul R C M) : Indep q mul R C (addM mul M i r g) := by
  intro c hc hz k hk
  have hcg : mul (c i) g < q := h.lt _ _ (hc i hi) hg
  have h1 := hI (fun k => if k = r then c r ^^^ mul (c i) g else c k) (fun k hk => by split; exact h.xor_lt (hc r hr) hcg; exact hc k hk) (fun j hj => by
    rw [← hz j hj]
    have e1 : xs R (fun k => mul (if k = r then c r ^^^ mul (c i) g else c k) (M k j)) = xs R fun k => mul (c k) (M k j) ^^^ (if k = r then mul (mul (c i) g) (M r j) else 0) := xs_congr fun k hk => by
      by_cases e : k = r
      · subst e
        simp only [if_true]
        exact h.xorL (hc k hk) hcg (hM k hk j hj)
      · simp only [if_neg e, Nat.xor_zero]
    have e2 : xs R (fun k => mul (c k) (addM mul M i r g k j)) = xs R fun k => mul (c k) (M k j) ^^^ (if k = i then mul (c i) (mul g (M r j)) else 0) := xs_congr fun k hk => by
      unfold addM
      by_cases e : k = i
      · subst e
        simp only [if_true]
        exact h.xorR _ _ _ (hc k hk) (hM k hk j hj) (h.lt _ _ hg (hM r hr j hj))
      · simp only [if_neg e, Nat.xor_zero]
    rw [e1, e2, xs_xor, xs_xor, xs_one (f := fun k => if k = r then mul (mul (c i) g) (M r j) else 0) (k := r) hr (fun k _ hne => by rw [if_neg hne]), xs_one (f := fun k => if k = i then mul (c i) (mul g (M r j)) else 0) (k := i) hi (fun k _ hne => by rw [if_neg hne]), if_pos rfl, if_pos rfl, h.assoc _ _ _ (hc i hi) hg (hM r hr j hj)])
  by_cases e : k = r
  · subst e
    have h2 := h1 i hi
    simp only [if_neg hne] at h2
    have h3 := h1 k hk
    simp only [if_true] at h3
    rw [h2, h.zl hg, Nat.xor_zero] at h3
    exact h3
  · have h3 := h1 k hk
    simp only [if_neg e] at h3
    exact h3
theorem add_add {R C i r g : Nat} {M : Mat} (hne : i ≠ r) : ∀ k, k < R → ∀ j, j < C → addM mul (addM mul M i r g) i r g k j = M k j := by
  intro k _ j _
  unfold addM
  by_cases e : k = i
  · subst e
    simp only [if_true, if_neg (Ne.symm hne)]
    rw [Nat.xor_assoc, Nat.xor_self, Nat.xor_zero]
  · simp only [if_neg e]
theorem indep_add_iff (h : Ops q mul inv) {R C i r g : Nat} {M : Mat} (hi : i < R) (hr : r < R) (hne : i ≠ r) (hg : g < q) (hM : Bnd q R C M) : Indep q mul R C (addM mul M i r g) ↔ Indep q mul R C M :=
  ⟨fun hI => indep_congr (add_add hne) (indep_add h hi hr hne hg (bnd_add h hi hr hg hM) hI), indep_add h hi hr hne hg hM⟩

/-- All rows below n but r, cleared at a column. -/
def clearM (mul : Nat → Nat → Nat) (M : Mat) (r jc : Nat) (n : Nat) : Mat := fun i j => if i < n ∧ i ≠ r then M i j ^^^ mul (M i jc) (M r j) else M i j
theorem clear_zero (M : Mat) (r jc : Nat) : clearM mul M r jc 0 = M := by
  funext i j
  unfold clearM
  rw [if_neg (by omega)]
theorem clear_skip (M : Mat) (r jc : Nat) : clearM mul M r jc (r + 1) = clearM mul M r jc r := by
  funext i j
  unfold clearM
  by_cases h : i < r
  · rw [if_pos ⟨by omega, by omega⟩, if_pos ⟨by omega, by omega⟩]
  · rw [if_neg (by omega), if_neg (by omega)]
theorem clear_row (M : Mat) (r jc n : Nat) : clearM mul M r jc n r = M r := by
  funext j
  unfold clearM
  rw [if_neg (by omega)]
theorem clear_step (M : Mat) {r jc n : Nat} (hn : n ≠ r) : clearM mul M r jc (n + 1) = addM mul (clearM mul M r jc n) n r (M n jc) := by
  funext i j
  unfold addM
  rw [clear_row]
  by_cases e : i = n
  · subst e
    unfold clearM
    rw [if_pos ⟨by omega, hn⟩, if_pos rfl, if_neg (by omega)]
  · rw [if_neg e]
    unfold clearM
    by_cases h : i < n ∧ i ≠ r
    · rw [if_pos ⟨by omega, h.2⟩, if_pos h]
    · rw [if_neg (by omega), if_neg h]
theorem clear_ok (h : Ops q mul inv) {R C r jc : Nat} {M : Mat} (hr : r < R) (hj : jc < C) (hM : Bnd q R C M) : ∀ n, n ≤ R → Bnd q R C (clearM mul M r jc n) ∧ (Indep q mul R C (clearM mul M r jc n) ↔ Indep q mul R C M)
  | 0, _ => by rw [clear_zero]; exact ⟨hM, Iff.rfl⟩
  | n + 1, hn => by
    have ih := clear_ok h hr hj hM n (by omega)
    by_cases e : n = r
    · subst e; rw [clear_skip]; exact ih
    · rw [clear_step M e]
      exact ⟨bnd_add h (by omega) hr (hM n (by omega) jc hj) ih.1, (indep_add_iff h (by omega) hr e (hM n (by omega) jc hj) ih.1).trans ih.2⟩

/-! ### the reduced form -/
/-- The first row from r on that is not zero at a column. -/
def findR (M : Mat) (R r j : Nat) : Option Nat := (List.range R).find? fun i => decide (r ≤ i) && (M i j != 0)
def pivM (mul : Nat → Nat → Nat) (inv : Nat → Nat) (R j i r : Nat) (M : Mat) : Mat :=
  clearM mul (scaleM mul (swapM M i r) r (inv (swapM M i r r j))) r j R
def stepC (mul : Nat → Nat → Nat) (inv : Nat → Nat) (R : Nat) (s : List Nat × Mat) (j : Nat) : List Nat × Mat :=
  match findR s.2 R s.1.length j with
  | none => s
  | some i => (s.1 ++ [j], pivM mul inv R j i s.1.length s.2)
def redM (mul : Nat → Nat → Nat) (inv : Nat → Nat) (R n : Nat) (M : Mat) : List Nat × Mat := (List.range n).foldl (stepC mul inv R) ([], M)
theorem redM_succ (R n : Nat) (M : Mat) : redM mul inv R (n + 1) M = stepC mul inv R (redM mul inv R n M) n := by
  unfold redM
  rw [List.range_succ, List.foldl_append]; rfl
theorem findR_none {M : Mat} {R r j : Nat} (h : findR M R r j = none) : ∀ i, r ≤ i → i < R → M i j = 0 := by
  intro i h1 h2
  have := List.find?_eq_none.1 h i (List.mem_range.2 h2)
  simpa [h1] using this
theorem findR_some {M : Mat} {R r j i : Nat} (h : findR M R r j = some i) : r ≤ i ∧ i < R ∧ M i j ≠ 0 := by
  have h1 := List.find?_some h
  have h2 := List.mem_range.1 (List.mem_of_find?_eq_some h)
  simp only [Bool.and_eq_true, decide_eq_true_eq, bne_iff_ne] at h1
  exact ⟨h1.1, h2, h1.2⟩
structure RedI (q : Nat) (mul : Nat → Nat → Nat) (R C : Nat) (M0 : Mat) (j : Nat) (ps : List Nat) (M : Mat) : Prop where
  len : ps.length ≤ R
  inc : ps.Pairwise (· < ·)
  lt : ∀ p ∈ ps, p < j
  unit : ∀ a p, ps[a]? = some p → ∀ i, i < R → M i p = if i = a then 1 else 0
  low : ∀ i, ps.length ≤ i → i < R → ∀ k, k < j → M i k = 0
  bnd : Bnd q R C M
  ind : Indep q mul R C M ↔ Indep q mul R C M0
theorem RedI.start {R C : Nat} {M : Mat} (hM : Bnd q R C M) : RedI q mul R C M 0 [] M :=
  ⟨Nat.zero_le _, List.Pairwise.nil, by simp, by simp, fun _ _ _ k hk => absurd hk (by omega), hM, Iff.rfl⟩
theorem RedI.step (h : Ops q mul inv) {R C j : Nat} {M0 M : Mat} {ps : List Nat} (hj : j < C) (hI : RedI q mul R C M0 j ps M) :
    RedI q mul R C M0 (j + 1) (stepC mul inv R (ps, M) j).1 (stepC mul inv R (ps, M) j).2 := by
  unfold stepC
  simp only
  cases hf : findR M R ps.length j with
  | none =>
    refine ⟨hI.len, hI.inc, fun p hp => by have := hI.lt p hp; omega, hI.unit, fun i h1 h2 k hk => ?_, hI.bnd, hI.ind⟩
    by_cases e : k = j
    · subst e; exact findR_none hf i h1 h2
    · exact hI.low i h1 h2 k (by omega)
  | some i =>
    simp only
    obtain ⟨h1, h2, h3⟩ := findR_some hf
    generalize hr' : ps.length = r at *
    have hrR : r < R := by omega
    have hx : M i j < q := hI.bnd i h2 j hj
    have hsw : swapM M i r r j = M i j := by
      unfold swapM
      by_cases e : r = i
      · subst e; simp
      · rw [if_neg e, if_pos rfl]
    obtain ⟨hf1, hf2⟩ := h.invs _ hx h3
    have b1 := bnd_swap hI.bnd h2 hrR
    have b2 := bnd_scale h hrR hf1 b1
    have i1 := (indep_swap_iff (q := q) (mul := mul) (C := C) (M := M) h2 hrR)
    have i2 := indep_scale_iff h (f := inv (M i j)) (x := M i j) hrR hf1 hx (by rw [h.comm _ _ hf1 hx]; exact hf2) b1
    have i3 := clear_ok h hrR hj b2 R (Nat.le_refl _)
    unfold pivM
    rw [hsw]
    -- what the rows hold at earlier columns
    have low1 : ∀ k, k < j → ∀ i', r ≤ i' → i' < R → swapM M i r i' k = 0 := by
      intro k hk i' hr2 hi'
      unfold swapM
      refine hI.low _ ?_ (sw_lt h2 hrR hi') k hk
      rw [hr']
      split
      · omega
      · split <;> omega
    have low2 : ∀ k, k < j → scaleM mul (swapM M i r) r (inv (M i j)) r k = 0 := by
      intro k hk
      unfold scaleM
      rw [if_pos rfl, low1 k hk r (Nat.le_refl _) hrR, h.zero _ hf1]
    have keep : ∀ k, k < j → ∀ i', i' < R → clearM mul (scaleM mul (swapM M i r) r (inv (M i j))) r j R i' k = if i' = r then 0 else swapM M i r i' k := by
      intro k hk i' hi'
      unfold clearM
      by_cases e : i' = r
      · rw [if_neg (by omega), if_pos e, e]; exact low2 k hk
      · rw [if_pos ⟨hi', e⟩, if_neg e, low2 k hk, h.zero _ (b2 i' hi' j hj), Nat.xor_zero]
        unfold scaleM
        rw [if_neg e]
    have hcol : ∀ i', i' < R → clearM mul (scaleM mul (swapM M i r) r (inv (M i j))) r j R i' j = if i' = r then 1 else 0 := by
      intro i' hi'
      have hrj : scaleM mul (swapM M i r) r (inv (M i j)) r j = 1 := by
        unfold scaleM
        rw [if_pos rfl, hsw, h.comm _ _ hf1 hx, hf2]
      unfold clearM
      by_cases e : i' = r
      · rw [if_neg (by omega), if_pos e, e, hrj]
      · rw [if_pos ⟨hi', e⟩, if_neg e, hrj, h.one _ (b2 i' hi' j hj), Nat.xor_self]
    refine ⟨by rw [List.length_append]; simp; omega, ?_, ?_, ?_, ?_, i3.1, i3.2.trans (i2.trans (i1.trans hI.ind))⟩
    · rw [List.pairwise_append]
      exact ⟨hI.inc, List.pairwise_singleton _ _, fun a ha b hb => by rw [List.mem_singleton.1 hb]; exact hI.lt a ha⟩
    · intro p hp
      rcases List.mem_append.1 hp with hp | hp
      · have := hI.lt p hp; omega
      · rw [List.mem_singleton.1 hp]; omega
    · intro a p hap i' hi'
      rw [List.getElem?_append] at hap
      by_cases ha : a < ps.length
      · rw [if_pos ha] at hap
        have hpj := hI.lt p (List.mem_of_getElem? hap)
        rw [keep p hpj i' hi']
        have hu := hI.unit a p hap
        by_cases e : i' = r
        · rw [if_pos e, if_neg (by omega)]
        · rw [if_neg e]
          unfold swapM
          by_cases e2 : i' = i
          · rw [if_pos e2, hu r hrR, if_neg (by omega), if_neg (by omega)]
          · rw [if_neg e2, if_neg e, hu i' hi']
      · rw [if_neg ha] at hap
        have h0 : a - ps.length = 0 := by
          have := (List.getElem?_eq_some_iff.1 hap).1
          simp at this; omega
        rw [h0] at hap
        obtain rfl : j = p := by simpa using hap
        obtain rfl : a = r := by omega
        exact hcol i' hi'
    · intro i' h4 h5 k hk
      rw [List.length_append, List.length_singleton, hr'] at h4
      by_cases e : k = j
      · subst e
        rw [hcol i' h5, if_neg (by omega)]
      · rw [keep k (by omega) i' h5, if_neg (by omega)]
        exact low1 k (by omega) i' (by omega) h5
theorem redI (h : Ops q mul inv) {R C : Nat} {M : Mat} (hM : Bnd q R C M) : ∀ n, n ≤ C → RedI q mul R C M n (redM mul inv R n M).1 (redM mul inv R n M).2
  | 0, _ => RedI.start hM
  | n + 1, hn => by rw [redM_succ]; exact (redI h hM n (by omega)).step h (by omega)
theorem pair_len : ∀ {l : List Nat} {b n : Nat}, l.Pairwise (· < ·) → (∀ p ∈ l, b ≤ p ∧ p < n) → l.length ≤ n - b
  | [], _, _, _, _ => Nat.zero_le _
  | x :: r, b, n, h, hb => by
    obtain ⟨h1, h2⟩ := List.pairwise_cons.1 h
    have h3 := hb x (by simp)
    have := pair_len (b := x + 1) (n := n) h2 fun p hp => ⟨h1 p hp, (hb p (by simp [hp])).2⟩
    rw [List.length_cons]; omega
/-- Full rank: the rows are independent. -/
theorem full_iff (h : Ops q mul inv) {R C : Nat} {M : Mat} (hM : Bnd q R C M) : (redM mul inv R C M).1.length = R ↔ Indep q mul R C M := by
  have hI := redI h hM C (Nat.le_refl _)
  rw [← hI.ind]
  generalize redM mul inv R C M = s at hI
  constructor
  · intro hfull c hc hz i hi
    obtain ⟨p, hp⟩ : ∃ p, s.1[i]? = some p := ⟨_, List.getElem?_eq_getElem (by omega)⟩
    have h1 := hz p (hI.lt p (List.mem_of_getElem? hp))
    rw [xs_one (k := i) hi (fun k hk hne => by rw [hI.unit i p hp k hk, if_neg hne, h.zero _ (hc k hk)]), hI.unit i p hp i hi, if_pos rfl, h.one _ (hc i hi)] at h1
    exact h1
  · intro hind
    apply Classical.byContradiction
    intro hne
    have hlt : s.1.length < R := by have := hI.len; omega
    have h1 := hind (fun i => if i = s.1.length then 1 else 0) (fun i _ => by split; exact h.one_lt; exact h.pos) (fun j hj => by
      rw [xs_congr (g := fun _ => 0) fun i hi => ?_, xs_zero]
      by_cases e : i = s.1.length
      · rw [if_pos e, e, hI.low _ (Nat.le_refl _) hlt j hj, h.zero _ h.one_lt]
      · rw [if_neg e, h.zl (hI.bnd i hi j hj)]) s.1.length hlt
    simp at h1
theorem redM_pair (h : Ops q mul inv) {R C : Nat} {M : Mat} (hM : Bnd q R C M) : (redM mul inv R C M).1.Pairwise (· < ·) ∧ (∀ p ∈ (redM mul inv R C M).1, p < C) ∧ (redM mul inv R C M).1.length ≤ R ∧ (redM mul inv R C M).1.length ≤ C := by
  have hI := redI h hM C (Nat.le_refl _)
  exact ⟨hI.inc, hI.lt, hI.len, pair_len (b := 0) (n := C) hI.inc fun p hp => ⟨Nat.zero_le _, hI.lt p hp⟩⟩
end
end Go.GF
