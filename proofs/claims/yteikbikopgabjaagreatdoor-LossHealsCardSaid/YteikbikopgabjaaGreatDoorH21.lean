import Derived.Test.YteikbikopgabjaaGreatDoorH04
/- Part 21 of a proof; the last part says what is proved. -/
namespace Go.GF
section
variable {q : Nat} {mul : Nat → Nat → Nat} {inv : Nat → Nat}
def KerR (mul : Nat → Nat → Nat) (R C : Nat) (M : Mat) (y : Nat → Nat) : Prop := ∀ i, i < R → xs C (fun j => mul (y j) (M i j)) = 0
theorem ker_swap {R C a b : Nat} {M : Mat} {y : Nat → Nat} (ha : a < R) (hb : b < R) (h : KerR mul R C M y) : KerR mul R C (swapM M a b) y := fun _ hi => h _ (sw_lt ha hb hi)
theorem ker_scale (h : Ops q mul inv) {R C r f : Nat} {M : Mat} {y : Nat → Nat} (hr : r < R) (hf : f < q) (hM : Bnd q R C M) (hy : ∀ j, j < C → y j < q) (hk : KerR mul R C M y) : KerR mul R C (scaleM mul M r f) y := by
 intro i hi
 unfold scaleM
 by_cases e : i = r
 ·subst e
  simp only [if_true]
  rw [xs_congr (g := fun j => mul f (mul (y j) (M i j))) fun j hj => by
   rw [← h.assoc _ _ _ (hy j hj) hf (hM i hi j hj), ← h.assoc _ _ _ hf (hy j hj) (hM i hi j hj), h.comm f (y j) hf (hy j hj)]]
  rw [← xs_mul h hf fun j hj => h.lt _ _ (hy j hj) (hM i hi j hj), hk i hi, h.zero _ hf]
 ·simp only [if_neg e]
  exact hk i hi
theorem ker_add (h : Ops q mul inv) {R C i r g : Nat} {M : Mat} {y : Nat → Nat} (hi : i < R) (hr : r < R) (hg : g < q) (hM : Bnd q R C M) (hy : ∀ j, j < C → y j < q) (hk : KerR mul R C M y) : KerR mul R C (addM mul M i r g) y := by
 intro k hkR
 unfold addM
 by_cases e : k = i
 ·subst e
  simp only [if_true]
  rw [xs_congr (g := fun j => mul (y j) (M k j) ^^^ mul g (mul (y j) (M r j))) fun j hj => by
   rw [h.xorR _ _ _ (hy j hj) (hM k hkR j hj) (h.lt _ _ hg (hM r hr j hj)), ← h.assoc _ _ _ (hy j hj) hg (hM r hr j hj), ← h.assoc _ _ _ hg (hy j hj) (hM r hr j hj), h.comm g (y j) hg (hy j hj)]]
  rw [xs_xor, hk k hkR, ← xs_mul h hg fun j hj => h.lt _ _ (hy j hj) (hM r hr j hj), hk r hr, h.zero _ hg]; rfl
 ·simp only [if_neg e]
  exact hk k hkR
theorem ker_clear (h : Ops q mul inv) {R C r jc : Nat} {M : Mat} {y : Nat → Nat} (hr : r < R) (hj : jc < C) (hM : Bnd q R C M) (hy : ∀ j, j < C → y j < q) (hk : KerR mul R C M y) : ∀ n, n ≤ R → KerR mul R C (clearM mul M r jc n) y
 | 0, _ => by rw [clear_zero]; exact hk
 | n + 1, hn => by
  have ih := ker_clear h hr hj hM hy hk n (by omega)
  by_cases e : n = r
  ·subst e; rw [clear_skip]; exact ih
  ·rw [clear_step M e]
   exact ker_add h (by omega) hr (hM n (by omega) jc hj) (clear_ok h hr hj hM n (by omega)).1 hy ih
theorem ker_back {R C : Nat} {M M' : Mat} {y : Nat → Nat} (he : ∀ i, i < R → ∀ j, j < C → M i j = M' i j) (hk : KerR mul R C M y) : KerR mul R C M' y := fun i hi => by
 rw [← hk i hi]
 exact xs_congr fun j hj => by rw [he i hi j hj]
theorem ker_step (h : Ops q mul inv) {R C j : Nat} {M : Mat} {y : Nat → Nat} (ps : List Nat) (hps : ps.length ≤ R) (hj : j < C) (hM : Bnd q R C M) (hy : ∀ j, j < C → y j < q) :
  Bnd q R C (stepC mul inv R (ps, M) j).2 ∧ (KerR mul R C (stepC mul inv R (ps, M) j).2 y ↔ KerR mul R C M y) := by
 unfold stepC
 simp only
 cases hf : findR M R ps.length j with
 | none => exact ⟨hM, Iff.rfl⟩
 | some i =>
  simp only
  obtain ⟨h1, h2, h3⟩ := findR_some hf
  generalize ps.length = r at *
  have hrR : r < R := by omega
  have hx : M i j < q := hM i h2 j hj
  have hsw : swapM M i r r j = M i j := by
   unfold swapM
   by_cases e : r = i
   ·subst e; simp
   ·rw [if_neg e, if_pos rfl]
  obtain ⟨hf1, hf2⟩ := h.invs _ hx h3
  have b1 := bnd_swap hM h2 hrR
  have b2 := bnd_scale h hrR hf1 b1
  have b3 := clear_ok h hrR hj b2 R (Nat.le_refl _)
  unfold pivM
  rw [hsw]
  refine ⟨b3.1, ⟨fun hk => ?_, fun hk => ker_clear h hrR hj b2 hy (ker_scale h hrR hf1 b1 hy (ker_swap h2 hrR hk)) R (Nat.le_refl _)⟩⟩
  -- back: the clearing is undone by the same multiples, row by row
  have undo : ∀ n, n ≤ R → KerR mul R C (clearM mul (scaleM mul (swapM M i r) r (inv (M i j))) r j n) y → KerR mul R C (scaleM mul (swapM M i r) r (inv (M i j))) y := by
   intro n
   induction n with
   | zero => intro _ hk; rw [clear_zero] at hk; exact hk
   | succ n ih =>
    intro hn hk
    refine ih (by omega) ?_
    by_cases e : n = r
    ·subst e; rw [clear_skip] at hk; exact hk
    ·rw [clear_step _ e] at hk
     have hb := (clear_ok h hrR hj b2 n (by omega)).1
     have hg := b2 n (by omega) j hj
     exact ker_back (add_add e) (ker_add h (by omega) hrR hg (bnd_add h (by omega) hrR hg hb) hy hk)
  have k2 := undo R (Nat.le_refl _) hk
  have k1 : KerR mul R C (swapM M i r) y := ker_back (scale_scale h hf1 hx (by rw [h.comm _ _ hf1 hx]; exact hf2) b1) (ker_scale h hrR hx b2 hy k2)
  have := ker_swap h2 hrR k1
  rwa [swap_swap] at this
theorem ker_red (h : Ops q mul inv) {R C : Nat} {M : Mat} {y : Nat → Nat} (hM : Bnd q R C M) (hy : ∀ j, j < C → y j < q) : ∀ n, n ≤ C → (KerR mul R C (redM mul inv R n M).2 y ↔ KerR mul R C M y)
 | 0, _ => Iff.rfl
 | n + 1, hn => by
  rw [redM_succ]
  have hI := redI h hM n (by omega)
  exact (ker_step h _ hI.len (by omega) hI.bnd hy).2.trans (ker_red h hM hy n (by omega))
end
end Go.GF
namespace Go.GF
section
variable {q : Nat} {mul : Nat → Nat → Nat} {inv : Nat → Nat}
theorem inc_range : ∀ {m : Nat} {l : List Nat}, l.length = m → l.Pairwise (· < ·) → (∀ p ∈ l, p < m) → l = List.range m
 | 0, l, hl, _, _ => by rw [List.eq_nil_of_length_eq_zero hl]; rfl
 | m + 1, l, hl, hp, hb => by
  have hne : l ≠ [] := by intro e; subst e; simp at hl
  obtain ⟨a, x, rfl⟩ : ∃ a x, l = a ++ [x] := ⟨l.dropLast, l.getLast hne, (List.dropLast_concat_getLast hne).symm⟩
  rw [List.pairwise_append] at hp
  have hx := hb x (by simp)
  have hal : a.length = m := by simpa using hl
  have ha : ∀ p ∈ a, p < x := fun p hp1 => hp.2.2 p hp1 x (by simp)
  have := inc_range hal hp.1 (fun p hp1 => by have := ha p hp1; omega)
  rw [this, List.range_succ]
  congr 2
  rcases Nat.lt_or_ge x m with h | h
  ·have := ha x (by rw [this]; exact List.mem_range.2 h)
   omega
  ·omega
def exprB (mul : Nat → Nat → Nat) (inv : Nat → Nat) (R n : Nat) (M : Mat) : Bool :=
 decide ((redM mul inv R n M).1.length = n) && (List.range R).all fun i => decide (i < n) || ((redM mul inv R n M).2 i n == 0)
def CInd (q : Nat) (mul : Nat → Nat → Nat) (R n : Nat) (M : Mat) : Prop := ∀ y : Nat → Nat, (∀ j, j < n → y j < q) → KerR mul R n M y → ∀ j, j < n → y j = 0
theorem red_all (h : Ops q mul inv) {R C n : Nat} {M : Mat} (hM : Bnd q R C M) (hnC : n ≤ C) (hc : CInd q mul R n M) : (redM mul inv R n M).1 = List.range n := by
 have key : ∀ m, m ≤ n → (redM mul inv R m M).1.length = m := by
  intro m
  induction m with
  | zero => intro _; rfl
  | succ m ih =>
   intro hm
   have hl := ih (by omega)
   have hI := redI h hM m (by omega)
   rw [redM_succ]
   unfold stepC
   rw [hl]
   cases hf : findR (redM mul inv R m M).2 R m m with
   | some i => simp only [List.length_append, List.length_singleton, hl]
   | none =>
    exfalso
    have hps := inc_range hl hI.inc hI.lt
    obtain ⟨y, hy⟩ : ∃ y : Nat → Nat, y = fun j => if j < m then (if j < R then (redM mul inv R m M).2 j m else 0) else if j = m then 1 else 0 := ⟨_, rfl⟩
    have hylt : ∀ j, y j < q := by
     intro j
     rw [hy]; dsimp only
     split
     ·split
      ·rename_i h2; exact hI.bnd j h2 m (by omega)
      ·exact h.pos
     ·split
      ·exact h.one_lt
      ·exact h.pos
    have hk : KerR mul R n (redM mul inv R m M).2 y := by
     intro i hi
     have hmn : m < n := by omega
     rw [xs_pick hmn]
     have ym : y m = 1 := by rw [hy]; simp
     rw [ym, h.ol (hI.bnd i hi m (by omega))]
     have hsum : xs n (fun j => if j = m then 0 else mul (y j) ((redM mul inv R m M).2 i j)) = if i < m then (redM mul inv R m M).2 i m else 0 := by
      by_cases him : i < m
      ·rw [if_pos him, xs_one (k := i) (by omega) fun j hj hne => ?_]
       ·rw [if_neg (by omega)]
        have yi : y i = (redM mul inv R m M).2 i m := by rw [hy]; dsimp only; rw [if_pos him, if_pos hi]
        have hu := hI.unit i i (by rw [hps]; rw [List.getElem?_range him]) i hi
        rw [if_pos rfl] at hu
        rw [yi, hu, h.one _ (hI.bnd i hi m (by omega))]
       ·by_cases e : j = m
        ·rw [if_pos e]
        ·rw [if_neg e]
         by_cases hjm : j < m
         ·have hu := hI.unit j j (by rw [hps]; rw [List.getElem?_range hjm]) i hi
          rw [if_neg (Ne.symm hne)] at hu
          rw [hu, h.zero _ (hylt j)]
         ·have yj : y j = 0 := by rw [hy]; dsimp only; rw [if_neg hjm, if_neg e]
          rw [yj, h.zl (hI.bnd i hi j (by omega))]
      ·rw [if_neg him, xs_congr (g := fun _ => 0) fun j hj => ?_, xs_zero]
       by_cases e : j = m
       ·rw [if_pos e]
       ·rw [if_neg e]
        by_cases hjm : j < m
        ·rw [hI.low i (by rw [hl]; omega) hi j hjm, h.zero _ (hylt j)]
        ·have yj : y j = 0 := by rw [hy]; dsimp only; rw [if_neg hjm, if_neg e]
         rw [yj, h.zl (hI.bnd i hi j (by omega))]
     rw [hsum]
     by_cases him : i < m
     ·rw [if_pos him, Nat.xor_self]
     ·rw [if_neg him, findR_none hf i (by omega) hi]; rfl
    have hMn : Bnd q R n M := fun i hi j hj => hM i hi j (by omega)
    have h0 := (ker_red h hMn (fun j _ => hylt j) m (by omega)).1 hk
    have := hc y (fun j _ => hylt j) h0 m (by omega)
    rw [hy] at this
    simp at this
 exact inc_range (key n (Nat.le_refl _)) (redI h hM n hnC).inc (redI h hM n hnC).lt
theorem expr_iff (h : Ops q mul inv) {R n : Nat} {M : Mat} (hM : Bnd q R (n + 1) M) (hc : CInd q mul R n M) :
  exprB mul inv R n M = true ↔ ∃ x : Nat → Nat, (∀ j, j < n → x j < q) ∧ ∀ i, i < R → xs n (fun j => mul (x j) (M i j)) = M i n := by
 have hps := red_all h hM (by omega) hc
 have hI := redI h hM n (by omega)
 have hlen : (redM mul inv R n M).1.length = n := by rw [hps, List.length_range]
 have hnR : n ≤ R := by have := hI.len; omega
 have sol : ∀ x : Nat → Nat, (∀ j, j < n → x j < q) → ((∀ i, i < R → xs n (fun j => mul (x j) (M i j)) = M i n) ↔ ∀ i, i < R → (redM mul inv R n M).2 i n = if i < n then x i else 0) := by
  intro x hx
  have hyl : ∀ j, j < n + 1 → (if j = n then 1 else x j) < q := by
   intro j hj
   split
   ·exact h.one_lt
   ·exact hx j (by omega)
  have kerform : ∀ A : Mat, Bnd q R (n + 1) A → (KerR mul R (n + 1) A (fun j => if j = n then 1 else x j) ↔ ∀ i, i < R → xs n (fun j => mul (x j) (A i j)) = A i n) := by
   intro A hA
   have e : ∀ i, i < R → xs (n + 1) (fun j => mul (if j = n then 1 else x j) (A i j)) = xs n (fun j => mul (x j) (A i j)) ^^^ A i n := by
    intro i hi
    show xs n _ ^^^ mul (if n = n then 1 else x n) (A i n) = _
    rw [if_pos rfl, h.ol (hA i hi n (by omega)), xs_congr (g := fun j => mul (x j) (A i j)) fun j hj => by rw [if_neg (by omega)]]
   constructor
   ·intro hk i hi
    have := hk i hi
    rw [e i hi] at this
    have h2 := congrArg (· ^^^ A i n) this
    simp only [Nat.xor_assoc, Nat.xor_self, Nat.xor_zero, Nat.zero_xor] at h2
    exact h2
   ·intro hk i hi
    rw [e i hi, hk i hi, Nat.xor_self]
  rw [← kerform M hM, ← ker_red h hM hyl n (by omega), kerform _ hI.bnd]
  refine forall_congr' fun i => forall_congr' fun hi => ?_
  have hsum : xs n (fun j => mul (x j) ((redM mul inv R n M).2 i j)) = if i < n then x i else 0 := by
   by_cases hin : i < n
   ·rw [if_pos hin, xs_one (k := i) hin fun j hj hne => ?_]
    ·have hu := hI.unit i i (by rw [hps, List.getElem?_range hin]) i hi
     rw [if_pos rfl] at hu
     rw [hu, h.one _ (hx i hin)]
    ·have hu := hI.unit j j (by rw [hps, List.getElem?_range hj]) i hi
     rw [if_neg (Ne.symm hne)] at hu
     rw [hu, h.zero _ (hx j hj)]
   ·rw [if_neg hin, xs_congr (g := fun _ => 0) fun j hj => ?_, xs_zero]
    rw [hI.low i (by omega) hi j hj, h.zero _ (hx j hj)]
  rw [hsum]
  exact eq_comm
 unfold exprB
 rw [hlen]
 simp only [decide_true, Bool.true_and, List.all_eq_true, List.mem_range, Bool.or_eq_true, decide_eq_true_eq, beq_iff_eq]
 constructor
 ·intro hz
  refine ⟨fun j => (redM mul inv R n M).2 j n, fun j hj => hI.bnd j (by omega) n (by omega), (sol _ fun j hj => hI.bnd j (by omega) n (by omega)).2 fun i hi => ?_⟩
  by_cases hin : i < n
  ·rw [if_pos hin]
  ·rw [if_neg hin]
   rcases hz i hi with h1 | h1
   ·exact absurd h1 hin
   ·exact h1
 ·rintro ⟨x, hx, hs⟩ i hi
  have := (sol x hx).1 hs i hi
  by_cases hin : i < n
  ·exact .inl hin
  ·rw [if_neg hin] at this
   exact .inr this
end
def matX (c : CodeM) (us : List Nat) (t : Nat → Nat) : Mat := fun i j => if j < us.length then c.gen ((us[j]?).getD 0) i else t i
def exprU (c : CodeM) (us : List Nat) (t : Nat → Nat) : Bool := exprB (mulC c.m) (invC c.m) c.k us.length (matX c us t)
def Span (c : CodeM) (us : List Nat) (t : Nat → Nat) : Prop := ∃ x : Nat → Nat, (∀ j, j < us.length → x j < 2 ^ c.m) ∧ ∀ i, i < c.k → xs us.length (fun j => mulC c.m (x j) (c.gen ((us[j]?).getD 0) i)) = t i
def UInd (c : CodeM) (us : List Nat) : Prop := CInd (2 ^ c.m) (mulC c.m) c.k us.length (matT c us)
theorem matX_bnd {c : CodeM} (hc : c.Ok) {us : List Nat} {t : Nat → Nat} (ht : ∀ i, i < c.k → t i < 2 ^ c.m) : Bnd (2 ^ c.m) c.k (us.length + 1) (matX c us t) := by
 intro i hi j _
 unfold matX
 split
 ·exact gen_lt hc _ _
 ·exact ht i hi
theorem exprU_iff {c : CodeM} (hc : c.Ok) {us : List Nat} (hi : UInd c us) {t : Nat → Nat} (ht : ∀ i, i < c.k → t i < 2 ^ c.m) : exprU c us t = true ↔ Span c us t := by
 unfold exprU
 rw [expr_iff (opsC hc.fld) (matX_bnd hc ht) (fun y hy hk => hi y hy fun i hi => by
  rw [← hk i hi]
  refine xs_congr fun j hj => ?_
  unfold matX matT
  rw [if_pos hj])]
 unfold Span
 refine exists_congr fun x => and_congr_right fun _ => forall_congr' fun i => forall_congr' fun _ => ?_
 rw [show matX c us t i us.length = t i by unfold matX; rw [if_neg (by omega)]]
 rw [xs_congr (g := fun j => mulC c.m (x j) (c.gen ((us[j]?).getD 0) i)) fun j hj => by unfold matX; rw [if_pos hj]]
theorem span_mem {c : CodeM} (hc : c.Ok) {us : List Nat} {u : Nat} (hu : u ∈ us) : Span c us (c.gen u) := by
 obtain ⟨j, hj, rfl⟩ := List.mem_iff_getElem.1 hu
 have ho := opsC hc.fld
 refine ⟨fun i => if i = j then 1 else 0, fun i _ => by dsimp only; split; exact ho.one_lt; exact ho.pos, fun i hi => ?_⟩
 rw [xs_one (k := j) hj fun a ha hne => by dsimp only; rw [if_neg hne, ho.zl (gen_lt hc _ _)]]
 dsimp only
 rw [if_pos rfl, ho.ol (gen_lt hc _ _), List.getElem?_eq_getElem hj]
 rfl
theorem span_trans {c : CodeM} (hc : c.Ok) {us vs : List Nat} (h : ∀ u ∈ us, Span c vs (c.gen u)) {t : Nat → Nat} (ht : Span c us t) : Span c vs t := by
 have ho := opsC hc.fld
 have zero : Span c vs (fun _ => 0) := ⟨fun _ => 0, fun _ _ => ho.pos, fun i _ => by rw [xs_congr (g := fun _ => 0) fun j _ => ho.zl (gen_lt hc _ _), xs_zero]⟩
 have add : ∀ {s t : Nat → Nat}, Span c vs s → Span c vs t → Span c vs (fun i => s i ^^^ t i) := by
  rintro s t ⟨x, hx, h1⟩ ⟨y, hy, h2⟩
  refine ⟨fun j => x j ^^^ y j, fun j hj => ho.xor_lt (hx j hj) (hy j hj), fun i hi => ?_⟩
  rw [xs_congr (g := fun j => mulC c.m (x j) (c.gen ((vs[j]?).getD 0) i) ^^^ mulC c.m (y j) (c.gen ((vs[j]?).getD 0) i)) fun j hj => ho.xorL (hx j hj) (hy j hj) (gen_lt hc _ _), xs_xor, h1 i hi, h2 i hi]
 have sc : ∀ {a : Nat} {s : Nat → Nat}, a < 2 ^ c.m → Span c vs s → Span c vs (fun i => mulC c.m a (s i)) := by
  rintro a s ha ⟨x, hx, h1⟩
  refine ⟨fun j => mulC c.m a (x j), fun j hj => ho.lt _ _ ha (hx j hj), fun i hi => ?_⟩
  dsimp only
  rw [← h1 i hi, xs_mul ho ha fun j hj => ho.lt _ _ (hx j hj) (gen_lt hc _ _)]
  exact xs_congr fun j hj => ho.assoc _ _ _ ha (hx j hj) (gen_lt hc _ _)
 have cong : ∀ {s t : Nat → Nat}, (∀ i, i < c.k → s i = t i) → Span c vs s → Span c vs t := by
  rintro s t he ⟨x, hx, h1⟩
  exact ⟨x, hx, fun i hi => by rw [h1 i hi, he i hi]⟩
 obtain ⟨x, hx, h1⟩ := ht
 have key : ∀ n, n ≤ us.length → Span c vs (fun i => xs n (fun j => mulC c.m (x j) (c.gen ((us[j]?).getD 0) i))) := by
  intro n
  induction n with
  | zero => intro _; exact zero
  | succ n ih =>
   intro hn
   refine add (ih (by omega)) (sc (hx n (by omega)) ?_)
   have := h us[n] (List.getElem_mem (by omega))
   rw [List.getElem?_eq_getElem (by omega)]
   exact this
 exact cong h1 (key us.length (Nat.le_refl _))
def basisR (c : CodeM) (l : List Nat) : List Nat := l.foldl (fun b u => if exprU c b (c.gen u) then b else b ++ [u]) []
theorem uind_snoc {c : CodeM} (hc : c.Ok) {us : List Nat} (hi : UInd c us) {u : Nat} (hu : ¬ Span c us (c.gen u)) : UInd c (us ++ [u]) := by
 have ho := opsC hc.fld
 intro y hy hk
 rw [List.length_append, List.length_singleton] at hy hk ⊢
 have form : ∀ i, i < c.k → xs us.length (fun j => mulC c.m (y j) (c.gen ((us[j]?).getD 0) i)) ^^^ mulC c.m (y us.length) (c.gen u i) = 0 := by
  intro i hi'
  have := hk i hi'
  unfold xs at this
  dsimp only at this
  have e1 : xs us.length (fun j => mulC c.m (y j) (matT c (us ++ [u]) i j)) = xs us.length (fun j => mulC c.m (y j) (c.gen ((us[j]?).getD 0) i)) := xs_congr fun j hj => by
   unfold matT
   rw [List.getElem?_append_left hj]
  have e2 : matT c (us ++ [u]) i us.length = c.gen u i := by
   unfold matT
   rw [List.getElem?_append_right (Nat.le_refl _), Nat.sub_self]
   rfl
  rw [e1, e2] at this
  exact this
 have hlast : y us.length = 0 := by
  apply Classical.byContradiction
  intro h0
  obtain ⟨i1, i2⟩ := ho.invs _ (hy us.length (by omega)) h0
  refine hu ⟨fun j => mulC c.m (invC c.m (y us.length)) (y j), fun j hj => ho.lt _ _ i1 (hy j (by omega)), fun i hi' => ?_⟩
  have h1 := congrArg (fun z => mulC c.m (invC c.m (y us.length)) z ^^^ c.gen u i) (form i hi')
  have hb : xs us.length (fun j => mulC c.m (y j) (c.gen ((us[j]?).getD 0) i)) < 2 ^ c.m := xs_lt ho fun j hj => ho.lt _ _ (hy j (by omega)) (gen_lt hc _ _)
  rw [ho.xorR _ _ _ i1 hb (ho.lt _ _ (hy _ (by omega)) (gen_lt hc _ _)), ho.zero _ i1, Nat.zero_xor, ← ho.assoc _ _ _ i1 (hy _ (by omega)) (gen_lt hc _ _), ho.comm _ (y us.length) i1 (hy _ (by omega)), i2, ho.ol (gen_lt hc _ _), Nat.xor_assoc, Nat.xor_self, Nat.xor_zero] at h1
  rw [← h1, xs_mul ho i1 fun j hj => ho.lt _ _ (hy j (by omega)) (gen_lt hc _ _)]
  exact xs_congr fun j hj => ho.assoc _ _ _ i1 (hy j (by omega)) (gen_lt hc _ _)
 have hrest := hi y (fun j hj => hy j (by omega)) (fun i hi' => by
  have := form i hi'
  rw [hlast, ho.zl (gen_lt hc _ _), Nat.xor_zero] at this
  exact this)
 intro j hj
 by_cases e : j = us.length
 ·rw [e]; exact hlast
 ·exact hrest j (by omega)
theorem basisR_ok {c : CodeM} (hc : c.Ok) (l : List Nat) : UInd c (basisR c l) ∧ (∀ u ∈ l, Span c (basisR c l) (c.gen u)) ∧ basisR c l ⊆ l := by
 have key : ∀ (r b : List Nat), UInd c b → UInd c (r.foldl (fun b u => if exprU c b (c.gen u) then b else b ++ [u]) b) ∧ (∀ u ∈ r, Span c (r.foldl (fun b u => if exprU c b (c.gen u) then b else b ++ [u]) b) (c.gen u)) ∧
   (∀ u ∈ b, u ∈ r.foldl (fun b u => if exprU c b (c.gen u) then b else b ++ [u]) b) ∧ (∀ u ∈ r.foldl (fun b u => if exprU c b (c.gen u) then b else b ++ [u]) b, u ∈ b ∨ u ∈ r) := by
  intro r
  induction r with
  | nil => intro b hb; exact ⟨hb, by simp, fun u hu => hu, fun u hu => .inl hu⟩
  | cons v r ih =>
   intro b hb
   rw [List.foldl_cons]
   have hg : ∀ i, i < c.k → c.gen v i < 2 ^ c.m := fun i _ => gen_lt hc _ _
   cases hx : exprU c b (c.gen v) with
   | true =>
    rw [if_pos rfl]
    obtain ⟨h1, h2, h3, h4⟩ := ih b hb
    refine ⟨h1, fun u hu => ?_, h3, fun u hu => by rcases h4 u hu with h | h; exact .inl h; exact .inr (by simp [h])⟩
    rcases List.mem_cons.1 hu with rfl | hu
    ·exact span_trans hc (fun x hx => span_mem hc (h3 x hx)) ((exprU_iff hc hb hg).1 hx)
    ·exact h2 u hu
   | false =>
    rw [if_neg (by decide)]
    have hb2 := uind_snoc hc hb (u := v) (fun hs => by rw [(exprU_iff hc hb hg).2 hs] at hx; cases hx)
    obtain ⟨h1, h2, h3, h4⟩ := ih (b ++ [v]) hb2
    refine ⟨h1, fun u hu => ?_, fun u hu => h3 u (by simp [hu]), fun u hu => ?_⟩
    ·rcases List.mem_cons.1 hu with rfl | hu
     ·exact span_mem hc (h3 u (by simp))
     ·exact h2 u hu
    ·rcases h4 u hu with h | h
     ·rcases List.mem_append.1 h with h | h
      ·exact .inl h
      ·exact .inr (by simp at h; simp [h])
     ·exact .inr (by simp [h])
 obtain ⟨h1, h2, _, h4⟩ := key l [] (fun y _ _ j hj => absurd hj (by simp))
 exact ⟨h1, h2, fun u hu => by rcases h4 u hu with h | h; simp at h; exact h⟩
def recR (c : CodeM) (h : List Bool) (u : Nat) : Bool := exprU c (basisR c (units h)) (c.gen u)
theorem recR_iff {c : CodeM} (hc : c.Ok) (h : List Bool) (u : Nat) : recR c h u = true ↔ Span c (units h) (c.gen u) := by
 obtain ⟨h1, h2, h3⟩ := basisR_ok hc (units h)
 unfold recR
 rw [exprU_iff hc h1 fun i _ => gen_lt hc _ _]
 exact ⟨span_trans hc fun x hx => span_mem hc (h3 hx), span_trans hc h2⟩
end Go.GF
namespace Go.GF
end Go.GF
