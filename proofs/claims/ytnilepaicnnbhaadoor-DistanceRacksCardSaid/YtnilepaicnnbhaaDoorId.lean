/- The two fields, as the program has them; codes: which units are sufficient to decode. It speaks of no program. -/
import Derived.Test.YtnilepaicnnbhaaDoorIc
namespace Go.GF

/-- Horner's rule over m bits. -/
def mulC (m a b : Nat) : Nat := evN (xt m (modP m)) a m b
/-- Reduction of at most m + 2 bits. -/
def redC (m p : Nat) : Nat := evN (xt m (modP m)) 1 (m + 2) p
/-- Rounds of the algorithm of Euclid. -/
def eucF (m : Nat) : Nat → Nat → Nat → Nat → Nat → Nat
  | 0, _, _, _, _ => 0
  | k + 1, u, v, x, y => if u = 1 then redC m x else if len v ≤ len u then eucF m k (u ^^^ (v <<< (len u - len v))) v (x ^^^ (y <<< (len u - len v))) y
    else eucF m k (v ^^^ (u <<< (len v - len u))) u (y ^^^ (x <<< (len v - len u))) x
def invC (m a : Nat) : Nat := eucF m (4 * m + 8) a (modP m) 1 0
/-- A field that there is. -/
def isF (m : Nat) : Prop := m = 8 ∨ m = 16
theorem fld {m : Nat} (h : isF m) : Fld m (modP m) := by
  rcases h with rfl | rfl
  · exact fld8
  · exact fld16
theorem mulC_eq {m a b : Nat} (hb : b < 2 ^ m) : mulC m a b = mul m (modP m) a b := (ev_fuel (lin_xt m (modP m)) a hb).symm
theorem redC_eq {m p : Nat} (hp : p < 2 ^ (m + 2)) : redC m p = red m (modP m) p := (ev_fuel (lin_xt m (modP m)) 1 hp).symm
theorem eucF_ok {m A : Nat} (hF : Fld m (modP m)) (hA : A < 2 ^ m) : ∀ {k u v x y : Nat}, eucM u v < k → EucI m (modP m) A u v x y → eucF m k u v x y < 2 ^ m ∧ mul m (modP m) A (eucF m k u v x y) = 1
  | 0, _, _, _, _, hk, _ => absurd hk (by omega)
  | k + 1, u, v, x, y, hk, h => by
    unfold eucF
    by_cases hu : u = 1
    · rw [if_pos hu]
      subst hu
      rw [redC_eq h.xlt]
      exact ⟨red_lt hF x, h.done hF hA⟩
    · rw [if_neg hu]
      by_cases hl : len v ≤ len u
      · rw [if_pos hl]
        obtain ⟨h1, h2⟩ := h.step hu hl
        exact eucF_ok hF hA (by omega) h1
      · rw [if_neg hl]
        obtain ⟨h1, h2⟩ := h.step' hu (by omega)
        exact eucF_ok hF hA (by omega) h1
theorem invC_ok {m a : Nat} (hm : isF m) (h0 : a ≠ 0) (ha : a < 2 ^ m) : invC m a < 2 ^ m ∧ mul m (modP m) a (invC m a) = 1 := by
  have hF := fld hm
  refine eucF_ok hF ha ?_ (EucI.start hF h0 ha)
  have h1 := len_le.2 ha
  have h2 := len_P hF
  unfold eucM
  split <;> omega
theorem opsC {m : Nat} (hm : isF m) : Ops (2 ^ m) (mulC m) (invC m) := by
  have hF := fld hm
  refine ⟨⟨m, rfl⟩, fun a b ha hb => ?_, fun a b ha hb => ?_, fun a b c ha hb hc => ?_, fun a b c ha hb hc => ?_, fun a ha => ?_, fun a ha => ?_, one_lt hF, fun a ha h0 => ?_⟩
  · rw [mulC_eq hb]; exact mul_lt hF ha b
  · rw [mulC_eq hb, mulC_eq ha]; exact mul_comm ha hb
  · rw [mulC_eq hb, mulC_eq hc, mulC_eq hc]
    have h1 := mul_lt hF hb c
    rw [mulC_eq h1]
    exact mul_assoc hF ha hb hc
  · rw [mulC_eq (Nat.xor_lt_two_pow hb hc), mulC_eq hb, mulC_eq hc]; exact mul_xorR a b c
  · rw [mulC_eq (Nat.pow_pos (by omega))]; exact mul_zero a
  · rw [mulC_eq (one_lt hF)]; exact mul_one a
  · obtain ⟨h1, h2⟩ := invC_ok hm h0 ha
    exact ⟨h1, by rw [mulC_eq h1]; exact h2⟩

/-! ### codes -/
/-- A code: field, data units, rows of the parity units. -/
structure CodeM where
  m : Nat
  k : Nat
  par : List (List Nat)
structure CodeM.Ok (c : CodeM) : Prop where
  fld : isF c.m
  pos : 1 ≤ c.k
  row : ∀ r ∈ c.par, r.length = c.k ∧ ∀ x ∈ r, x < 2 ^ c.m
def CodeM.n (c : CodeM) : Nat := c.k + c.par.length
/-- The generator's element: unit u, data unit i. -/
def CodeM.gen (c : CodeM) (u i : Nat) : Nat := if u < c.k then (if u = i then 1 else 0) else ((c.par[u - c.k]?).getD [])[i]?.getD 0
theorem gen_lt {c : CodeM} (h : c.Ok) (u i : Nat) : c.gen u i < 2 ^ c.m := by
  have h1 := (opsC h.fld).one_lt
  unfold CodeM.gen
  split
  · split <;> omega
  · cases hr : c.par[u - c.k]? with
    | none => simp; omega
    | some r =>
      simp only [Option.getD_some]
      cases hx : r[i]? with
      | none => simp; omega
      | some x => exact (h.row r (List.mem_of_getElem? hr)).2 x (List.mem_of_getElem? hx)
/-- The units that are there. -/
def units (have_ : List Bool) : List Nat := (List.range have_.length).filter fun u => (have_[u]?).getD false
/-- The transposed matrix of the units of a list. -/
def matT (c : CodeM) (us : List Nat) : Mat := fun i j => c.gen ((us[j]?).getD 0) i
theorem matT_bnd {c : CodeM} (h : c.Ok) (us : List Nat) : Bnd (2 ^ c.m) c.k us.length (matT c us) := fun _ _ _ _ => gen_lt h _ _
/-- The basis, as places among the units that are there. -/
def basisL (c : CodeM) (us : List Nat) : List Nat := (redM (mulC c.m) (invC c.m) c.k us.length (matT c us)).1
def decL (c : CodeM) (have_ : List Bool) : Bool := decide ((basisL c (units have_)).length = c.k)
/-- Nothing but zero is encoded to zeros at all these units. -/
def DecP (c : CodeM) (S : Nat → Prop) : Prop :=
  ∀ v : Nat → Nat, (∀ i, i < c.k → v i < 2 ^ c.m) → (∀ u, S u → xs c.k (fun i => mulC c.m (v i) (c.gen u i)) = 0) → ∀ i, i < c.k → v i = 0
theorem dec_list {c : CodeM} (h : c.Ok) (us : List Nat) : (basisL c us).length = c.k ↔ DecP c (fun u => u ∈ us) := by
  unfold basisL
  rw [full_iff (opsC h.fld) (matT_bnd h us)]
  constructor
  · intro hi v hv hz
    refine hi v hv fun j hj => ?_
    have := hz us[j] (List.getElem_mem hj)
    unfold matT
    rw [List.getElem?_eq_getElem hj, Option.getD_some]
    exact this
  · intro hd v hv hz
    refine hd v hv fun u hu => ?_
    obtain ⟨j, hj, rfl⟩ := List.mem_iff_getElem.1 hu
    have := hz j hj
    unfold matT at this
    rw [List.getElem?_eq_getElem hj, Option.getD_some] at this
    exact this
theorem mem_units {h : List Bool} {u : Nat} : u ∈ units h ↔ h[u]? = some true := by
  unfold units
  rw [List.mem_filter, List.mem_range]
  constructor
  · rintro ⟨h1, h2⟩
    rw [List.getElem?_eq_getElem h1, Option.getD_some] at h2
    rw [List.getElem?_eq_getElem h1, h2]
  · intro h1
    exact ⟨(List.getElem?_eq_some_iff.1 h1).1, by rw [h1]; rfl⟩
theorem decL_iff {c : CodeM} (h : c.Ok) (hv : List Bool) : decL c hv = true ↔ DecP c (fun u => hv[u]? = some true) := by
  unfold decL
  rw [decide_eq_true_iff, dec_list h]
  constructor
  · intro hd v h1 h2
    exact hd v h1 fun u hu => h2 u (mem_units.1 hu)
  · intro hd v h1 h2
    exact hd v h1 fun u hu => h2 u (mem_units.2 hu)
/-- More units are no worse. -/
theorem decL_mono {c : CodeM} (h : c.Ok) {a b : List Bool} (hab : ∀ u : Nat, a[u]? = some true → b[u]? = some true) (hd : decL c a = true) : decL c b = true := by
  rw [decL_iff h] at hd ⊢
  intro v h1 h2
  exact hd v h1 fun u hu => h2 u (hab u hu)
/-- All units suffice. -/
theorem decL_all {c : CodeM} (h : c.Ok) {a : List Bool} (ha : ∀ u, u < c.k → a[u]? = some true) : decL c a = true := by
  rw [decL_iff h]
  intro v h1 h2 i hi
  have := h2 i (ha i hi)
  rw [xs_one (k := i) hi (fun j hj hne => by
    have e : c.gen i j = 0 := by unfold CodeM.gen; rw [if_pos hi, if_neg (Ne.symm hne)]
    rw [e, (opsC h.fld).zero _ (h1 j hj)])] at this
  have e : c.gen i i = 1 := by unfold CodeM.gen; rw [if_pos hi, if_pos rfl]
  rw [e, (opsC h.fld).one _ (h1 i hi)] at this
  exact this
/-- Fewer units than data units do not suffice. -/
theorem decL_few {c : CodeM} (h : c.Ok) {a : List Bool} (ha : (units a).length < c.k) : decL c a = false := by
  have := (redM_pair (opsC h.fld) (matT_bnd h (units a))).2.2.2
  unfold decL basisL
  rw [decide_eq_false_iff_not]
  omega
end Go.GF
