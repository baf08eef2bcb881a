import Derived.Test.YteikbikopgabjaaGreatDoorH21
import Derived.Test.YteikbikopgabjaaGreatDoorH35
import Derived.Test.YteikbikopgabjaaGreatDoorH36
/- Part 37 of a proof; the last part says what is proved. -/
section
namespace Go.GF
section
variable {c : CodeM} {vs : List Nat}
theorem span_zero (hc : c.Ok) : Span c vs (fun _ => 0) := ⟨fun _ => 0, fun _ _ => (opsC hc.fld).pos, fun i _ => by rw [xs_congr (g := fun _ => 0) fun j _ => (opsC hc.fld).zl (gen_lt hc _ _), xs_zero]⟩
theorem span_add (hc : c.Ok) {s t : Nat → Nat} : Span c vs s → Span c vs t → Span c vs (fun i => s i ^^^ t i) := by
 have ho := opsC hc.fld
 rintro ⟨x, hx, h1⟩ ⟨y, hy, h2⟩
 refine ⟨fun j => x j ^^^ y j, fun j hj => ho.xor_lt (hx j hj) (hy j hj), fun i hi => ?_⟩
 rw [xs_congr (g := fun j => mulC c.m (x j) (c.gen ((vs[j]?).getD 0) i) ^^^ mulC c.m (y j) (c.gen ((vs[j]?).getD 0) i)) fun j hj => ho.xorL (hx j hj) (hy j hj) (gen_lt hc _ _), xs_xor, h1 i hi, h2 i hi]
theorem span_sc (hc : c.Ok) {a : Nat} {s : Nat → Nat} (ha : a < 2 ^ c.m) : Span c vs s → Span c vs (fun i => mulC c.m a (s i)) := by
 have ho := opsC hc.fld
 rintro ⟨x, hx, h1⟩
 refine ⟨fun j => mulC c.m a (x j), fun j hj => ho.lt _ _ ha (hx j hj), fun i hi => ?_⟩
 dsimp only
 rw [← h1 i hi, xs_mul ho ha fun j hj => ho.lt _ _ (hx j hj) (gen_lt hc _ _)]
 exact xs_congr fun j hj => ho.assoc _ _ _ ha (hx j hj) (gen_lt hc _ _)
theorem span_congr {s t : Nat → Nat} (he : ∀ i, i < c.k → s i = t i) : Span c vs s → Span c vs t := by
 rintro ⟨x, hx, h1⟩
 exact ⟨x, hx, fun i hi => by rw [h1 i hi, he i hi]⟩
theorem span_sum (hc : c.Ok) {f : Nat → Nat → Nat} : ∀ n, (∀ j, j < n → Span c vs (f j)) → Span c vs fun i => xs n fun j => f j i
 | 0, _ => span_zero hc
 | n + 1, h => span_add hc (span_sum hc n fun j hj => h j (by omega)) (h n (by omega))
end
theorem basis_span {c : CodeM} (hc : c.Ok) (us : List Nat) {u : Nat} (hu : u ∈ us) : Span c ((basisL c us).map fun p => (us[p]?).getD 0) (c.gen u) := by
 have ho := opsC hc.fld
 obtain ⟨j, hj, rfl⟩ := List.mem_iff_getElem.1 hu
 have hI := redI ho (matT_bnd hc us) us.length (Nat.le_refl _)
 have hk : ∀ y : Nat → Nat, (∀ j, j < us.length → y j < 2 ^ c.m) → KerR (mulC c.m) c.k us.length (redM (mulC c.m) (invC c.m) c.k us.length (matT c us)).2 y → KerR (mulC c.m) c.k us.length (matT c us) y := fun y hy => (ker_red ho (matT_bnd hc us) hy us.length (Nat.le_refl _)).1
 unfold basisL
 generalize redM (mulC c.m) (invC c.m) c.k us.length (matT c us) = s at hI hk
 obtain ⟨ps, M⟩ := s
 simp only at hI hk ⊢
 by_cases hjp : j ∈ ps
 ·refine span_mem hc (List.mem_map.2 ⟨j, hjp, ?_⟩)
  rw [List.getElem?_eq_getElem hj]; rfl
 have hnd : ps.Nodup := hI.inc.imp fun h => Nat.ne_of_lt h
 have hix : ∀ a p, ps[a]? = some p → ps.idxOf p = a := fun a p h => by
  obtain ⟨ha, rfl⟩ := List.getElem?_eq_some_iff.1 h
  exact List.Nodup.idxOf_getElem hnd a ha
 obtain ⟨y, hy⟩ : ∃ y : Nat → Nat, y = fun j' => if j' = j then 1 else if j' ∈ ps then M (ps.idxOf j') j else 0 := ⟨_, rfl⟩
 have hylt : ∀ j', j' < us.length → y j' < 2 ^ c.m := fun j' hj' => by
  rw [hy]; dsimp only
  split
  ·exact ho.one_lt
  ·split
   ·rename_i h1 h2
    exact hI.bnd _ (by have := List.idxOf_lt_length_of_mem h2; have := hI.len; omega) j hj
   ·exact ho.pos
 have hker : KerR (mulC c.m) c.k us.length M y := fun i hi => by
  rw [xs_pick hj]
  have e1 : mulC c.m (y j) (M i j) = M i j := by rw [hy]; dsimp only; rw [if_pos rfl, ho.ol (hI.bnd i hi j hj)]
  rw [e1]
  by_cases hil : i < ps.length
  ·have hp : ps[i]? = some ps[i] := List.getElem?_eq_getElem hil
   have hpl := hI.lt _ (List.getElem_mem hil)
   have hpj : ps[i] ≠ j := fun e => hjp (e ▸ List.getElem_mem hil)
   rw [xs_one (k := ps[i]) hpl fun a ha hne => ?_]
   ·rw [if_neg hpj, hI.unit i _ hp i hi, if_pos rfl, ho.one _ (hylt _ hpl), hy]
    dsimp only
    rw [if_neg hpj, if_pos (List.getElem_mem hil), hix i _ hp, Nat.xor_self]
   ·split
    ·rfl
    ·rename_i haj
     by_cases hap : a ∈ ps
     ·have ha2 : ps[ps.idxOf a]? = some a := by rw [List.getElem?_eq_getElem (List.idxOf_lt_length_of_mem hap), List.getElem_idxOf]
      rw [hI.unit _ a ha2 i hi, if_neg (fun e => hne (by have := ha2; rw [← e] at this; rw [hp] at this; exact (Option.some.inj this).symm)), ho.zero _ (hylt a ha)]
     ·rw [hy]; dsimp only
      rw [if_neg haj, if_neg hap, ho.zl (hI.bnd i hi a ha)]
  ·rw [hI.low i (by omega) hi j hj, Nat.zero_xor]
   rw [xs_congr (g := fun _ => 0) fun a ha => ?_, xs_zero]
   split
   ·rfl
   ·rename_i haj
    by_cases hap : a ∈ ps
    ·rw [hI.low i (by omega) hi a ha, ho.zero _ (hylt a ha)]
    ·rw [hy]; dsimp only
     rw [if_neg haj, if_neg hap, ho.zl (hI.bnd i hi a ha)]
 have hk2 := hk y hylt hker
 have hs : Span c (ps.map fun p => (us[p]?).getD 0) (fun i => xs us.length fun a => if a = j then 0 else mulC c.m (y a) (matT c us i a)) := by
  refine span_sum hc (f := fun a i => if a = j then 0 else mulC c.m (y a) (matT c us i a)) _ fun a ha => ?_
  by_cases haj : a = j
  ·subst haj; simp only [if_true]; exact span_zero hc
  ·simp only [if_neg haj]
   by_cases hap : a ∈ ps
   ·exact span_sc hc (hylt a ha) (span_mem hc (List.mem_map.2 ⟨a, hap, rfl⟩))
   ·refine span_congr (s := fun _ => 0) (fun i hi => ?_) (span_zero hc)
    rw [hy]; dsimp only
    rw [if_neg haj, if_neg hap, ho.zl (matT_bnd hc us i hi a ha)]
 refine span_congr (fun i hi => ?_) hs
 have h1 := hk2 i hi
 rw [xs_pick hj] at h1
 have e1 : mulC c.m (y j) (matT c us i j) = c.gen us[j] i := by
  rw [hy]; dsimp only
  rw [if_pos rfl, ho.ol (matT_bnd hc us i hi j hj)]
  unfold matT
  rw [List.getElem?_eq_getElem hj]; rfl
 rw [e1] at h1
 have h2 := congrArg (fun z => c.gen us[j] i ^^^ z) h1
 simp only [Nat.xor_zero] at h2
 rw [← Nat.xor_assoc, Nat.xor_self, Nat.zero_xor] at h2
 exact h2
theorem basis_sub (c : CodeM) (hc : c.Ok) (us : List Nat) {u : Nat} (hu : u ∈ (basisL c us).map fun p => (us[p]?).getD 0) : u ∈ us := by
 obtain ⟨p, hp, rfl⟩ := List.mem_map.1 hu
 have hI := redI (opsC hc.fld) (matT_bnd hc us) us.length (Nat.le_refl _)
 have hl := hI.lt p hp
 rw [List.getElem?_eq_getElem hl]
 exact List.getElem_mem hl
abbrev RowF := Nat × (Nat → Nat)
def stepF (c : CodeM) (t : Nat → Nat) (r : RowF) : Nat → Nat := fun i => t i ^^^ mulC c.m (t r.1) (r.2 i)
def redF (c : CodeM) (rows : List RowF) (t : Nat → Nat) : Nat → Nat := rows.foldl (stepF c) t
theorem redF_snoc (c : CodeM) (rows : List RowF) (r : RowF) (t : Nat → Nat) : redF c (rows ++ [r]) t = stepF c (redF c rows t) r := by unfold redF; rw [List.foldl_append]; rfl
def RowsOk (c : CodeM) (rows : List RowF) : Prop := ∀ r ∈ rows, r.1 < c.k ∧ ∀ i, i < c.k → r.2 i < 2 ^ c.m
def BndF (c : CodeM) (t : Nat → Nat) : Prop := ∀ i, i < c.k → t i < 2 ^ c.m
theorem RowsOk.tail {c : CodeM} {r : RowF} {rows : List RowF} (h : RowsOk c (r :: rows)) : RowsOk c rows := fun x hx => h x (List.mem_cons_of_mem _ hx)
theorem stepF_bnd {c : CodeM} (hc : c.Ok) {r : RowF} (hr : r.1 < c.k ∧ ∀ i, i < c.k → r.2 i < 2 ^ c.m) {t : Nat → Nat} (ht : BndF c t) : BndF c (stepF c t r) := fun i hi => (opsC hc.fld).xor_lt (ht i hi) ((opsC hc.fld).lt _ _ (ht _ hr.1) (hr.2 i hi))
theorem redF_bnd {c : CodeM} (hc : c.Ok) : ∀ {rows : List RowF} {t : Nat → Nat}, RowsOk c rows → BndF c t → BndF c (redF c rows t)
 | [], _, _, ht => ht
 | r :: rows, _, hr, ht => redF_bnd hc (rows := rows) hr.tail (stepF_bnd hc (hr r List.mem_cons_self) ht)
theorem redF_congr {c : CodeM} : ∀ {rows : List RowF} {s t : Nat → Nat}, RowsOk c rows → (∀ i, i < c.k → s i = t i) → ∀ i, i < c.k → redF c rows s i = redF c rows t i
 | [], _, _, _, h => h
 | r :: rows, s, t, hr, h => redF_congr (rows := rows) hr.tail fun i hi => by unfold stepF; rw [h i hi, h _ (hr r List.mem_cons_self).1]
theorem redF_zero {c : CodeM} (hc : c.Ok) : ∀ {rows : List RowF}, RowsOk c rows → ∀ i, i < c.k → redF c rows (fun _ => 0) i = 0
 | [], _, _, _ => rfl
 | r :: rows, hr, i, hi => by
  have e : ∀ i, i < c.k → stepF c (fun _ => 0) r i = 0 := fun i hi => by unfold stepF; rw [(opsC hc.fld).zl ((hr r List.mem_cons_self).2 i hi), Nat.xor_self]
  exact (redF_congr (rows := rows) (s := stepF c (fun _ => 0) r) (t := fun _ => 0) hr.tail e i hi).trans (redF_zero hc (rows := rows) hr.tail i hi)
theorem redF_add {c : CodeM} (hc : c.Ok) : ∀ {rows : List RowF} {s t : Nat → Nat}, RowsOk c rows → BndF c s → BndF c t → ∀ i, i < c.k → redF c rows (fun i => s i ^^^ t i) i = redF c rows s i ^^^ redF c rows t i
 | [], _, _, _, _, _, _, _ => rfl
 | r :: rows, s, t, hr, hs, ht, i, hi => by
  have ho := opsC hc.fld
  have hr0 := hr r List.mem_cons_self
  have e : ∀ i, i < c.k → stepF c (fun i => s i ^^^ t i) r i = stepF c s r i ^^^ stepF c t r i := fun i hi => by
   unfold stepF
   rw [ho.xorL (hs _ hr0.1) (ht _ hr0.1) (hr0.2 i hi), xor4]
  exact (redF_congr (rows := rows) hr.tail e i hi).trans (redF_add hc (rows := rows) hr.tail (stepF_bnd hc hr0 hs) (stepF_bnd hc hr0 ht) i hi)
theorem redF_sc {c : CodeM} (hc : c.Ok) {a : Nat} (ha : a < 2 ^ c.m) : ∀ {rows : List RowF} {t : Nat → Nat}, RowsOk c rows → BndF c t → ∀ i, i < c.k → redF c rows (fun i => mulC c.m a (t i)) i = mulC c.m a (redF c rows t i)
 | [], _, _, _, _, _ => rfl
 | r :: rows, t, hr, ht, i, hi => by
  have ho := opsC hc.fld
  have hr0 := hr r List.mem_cons_self
  have e : ∀ i, i < c.k → stepF c (fun i => mulC c.m a (t i)) r i = mulC c.m a (stepF c t r i) := fun i hi => by
   unfold stepF
   rw [ho.xorR _ _ _ ha (ht i hi) (ho.lt _ _ (ht _ hr0.1) (hr0.2 i hi)), ho.assoc _ _ _ ha (ht _ hr0.1) (hr0.2 i hi)]
  exact (redF_congr (rows := rows) hr.tail e i hi).trans (redF_sc hc ha (rows := rows) hr.tail (stepF_bnd hc hr0 ht) i hi)
theorem redF_span {c : CodeM} (hc : c.Ok) {vs : List Nat} : ∀ {rows : List RowF} {t : Nat → Nat}, RowsOk c rows → (∀ r ∈ rows, Span c vs r.2) → BndF c t → Span c vs fun i => t i ^^^ redF c rows t i
 | [], t, _, _, _ => span_congr (fun i _ => (Nat.xor_self (t i)).symm) (span_zero hc)
 | r :: rows, t, hr, hs, ht => by
  have hr0 := hr r List.mem_cons_self
  have h1 := redF_span hc (vs := vs) (rows := rows) (t := stepF c t r) hr.tail (fun x hx => hs x (List.mem_cons_of_mem _ hx)) (stepF_bnd hc hr0 ht)
  have h2 := span_sc hc (ht _ hr0.1) (hs r List.mem_cons_self)
  refine span_congr (fun i hi => ?_) (span_add hc h1 h2)
  show (stepF c t r i ^^^ redF c rows (stepF c t r) i) ^^^ mulC c.m (t r.1) (r.2 i) = t i ^^^ redF c rows (stepF c t r) i
  generalize redF c rows (stepF c t r) i = z
  unfold stepF
  generalize mulC c.m (t r.1) (r.2 i) = y
  rw [Nat.xor_assoc (t i) y z, Nat.xor_comm y z, ← Nat.xor_assoc, Nat.xor_assoc, Nat.xor_self, Nat.xor_zero]
def firstNZ (k : Nat) (f : Nat → Nat) : Option Nat := (List.range k).find? fun i => f i != 0
theorem firstNZ_none {k : Nat} {f : Nat → Nat} (h : firstNZ k f = none) : ∀ i, i < k → f i = 0 := fun i hi => by
 have := List.find?_eq_none.1 h i (List.mem_range.2 hi)
 simpa using this
theorem firstNZ_some {k j : Nat} {f : Nat → Nat} (h : firstNZ k f = some j) : j < k ∧ f j ≠ 0 := by
 have h1 := List.mem_of_find?_eq_some h
 have h2 := List.find?_some h
 exact ⟨List.mem_range.1 h1, by simpa using h2⟩
def newF (c : CodeM) (rows : List RowF) (t : Nat → Nat) : List RowF :=
 match firstNZ c.k t with
 | none => rows
 | some j => rows ++ [(j, fun i => mulC c.m (invC c.m (t j)) (t i))]
def addF (c : CodeM) (rows : List RowF) (u : Nat) : List RowF := newF c rows (redF c rows (c.gen u))
def rowsF (c : CodeM) (b : List Nat) : List RowF := b.foldl (addF c) []
theorem rowsF_snoc (c : CodeM) (b : List Nat) (u : Nat) : rowsF c (b ++ [u]) = addF c (rowsF c b) u := by unfold rowsF; rw [List.foldl_append]; rfl
structure RowsFI (c : CodeM) (b : List Nat) (rows : List RowF) : Prop where
 ok : RowsOk c rows
 span : ∀ r ∈ rows, Span c b r.2
 zero : ∀ u ∈ b, ∀ i, i < c.k → redF c rows (c.gen u) i = 0
theorem span_more {c : CodeM} (hc : c.Ok) {b : List Nat} {u : Nat} {t : Nat → Nat} (h : Span c b t) : Span c (b ++ [u]) t := span_trans hc (fun _ hx => span_mem hc (List.mem_append_left _ hx)) h
theorem RowsFI.step {c : CodeM} (hc : c.Ok) {b : List Nat} {rows : List RowF} (h : RowsFI c b rows) (u : Nat) : RowsFI c (b ++ [u]) (addF c rows u) := by
 have ho := opsC hc.fld
 have hg : BndF c (c.gen u) := fun i _ => gen_lt hc u i
 have hb := redF_bnd hc h.ok hg
 unfold addF newF
 cases hf : firstNZ c.k (redF c rows (c.gen u)) with
 | none =>
  refine ⟨h.ok, fun r hr => span_more hc (h.span r hr), fun x hx i hi => ?_⟩
  rcases List.mem_append.1 hx with hx | hx
  ·exact h.zero x hx i hi
  ·rw [List.mem_singleton.1 hx]; exact firstNZ_none hf i hi
 | some j =>
  obtain ⟨hj, h0⟩ := firstNZ_some hf
  have hsp := redF_span hc (vs := b) h.ok h.span hg
  generalize hrest : redF c rows (c.gen u) = rest at hb hf h0 hsp
  obtain ⟨i1, i2⟩ := ho.invs _ (hb j hj) h0
  simp only
  have hstep : ∀ i, i < c.k → stepF c rest (j, fun i => mulC c.m (invC c.m (rest j)) (rest i)) i = 0 := fun i hi => by
   unfold stepF
   simp only
   rw [← ho.assoc _ _ _ (hb j hj) i1 (hb i hi), i2, ho.ol (hb i hi), Nat.xor_self]
  refine ⟨fun r hr => ?_, fun r hr => ?_, fun x hx i hi => ?_⟩
  ·rcases List.mem_append.1 hr with hr | hr
   ·exact h.ok r hr
   ·rw [List.mem_singleton.1 hr]; exact ⟨hj, fun i hi => ho.lt _ _ i1 (hb i hi)⟩
  ·rcases List.mem_append.1 hr with hr | hr
   ·exact span_more hc (h.span r hr)
   ·rw [List.mem_singleton.1 hr]
    refine span_sc hc i1 (span_congr (fun i hi => ?_) (span_add hc (span_mem hc (us := b ++ [u]) (u := u) (by simp)) (span_more hc hsp)))
    show c.gen u i ^^^ (c.gen u i ^^^ rest i) = rest i
    rw [← Nat.xor_assoc, Nat.xor_self, Nat.zero_xor]
  ·rw [redF_snoc]
   rcases List.mem_append.1 hx with hx | hx
   ·have hz := h.zero x hx
    unfold stepF
    simp only
    rw [hz i hi, hz j hj, ho.zl (ho.lt _ _ i1 (hb i hi)), Nat.xor_self]
   ·rw [List.mem_singleton.1 hx, hrest]
    exact hstep i hi
theorem rowsF_ok {c : CodeM} (hc : c.Ok) (b : List Nat) : RowsFI c b (rowsF c b) := by
 have key : ∀ (r b : List Nat) (rows : List RowF), RowsFI c b rows → RowsFI c (b ++ r) (r.foldl (addF c) rows) := by
  intro r
  induction r with
  | nil => intro b rows h; rw [List.append_nil]; exact h
  | cons u r ih =>
   intro b rows h
   have := ih (b ++ [u]) _ (h.step hc u)
   rw [List.append_assoc] at this
   exact this
 have := key b [] [] ⟨fun r hr => by simp at hr, fun r hr => by simp at hr, fun u hu => by simp at hu⟩
 rw [List.nil_append] at this
 exact this
theorem RowsFI.iff {c : CodeM} (hc : c.Ok) {b : List Nat} {rows : List RowF} (h : RowsFI c b rows) {t : Nat → Nat} (ht : BndF c t) : (∀ i, i < c.k → redF c rows t i = 0) ↔ Span c b t := by
 have ho := opsC hc.fld
 constructor
 ·intro hz
  exact span_congr (fun i hi => by rw [hz i hi, Nat.xor_zero]) (redF_span hc h.ok h.span ht)
 ·rintro ⟨x, hx, h1⟩ i hi
  have key : ∀ n, n ≤ b.length → (∀ i, i < c.k → redF c rows (fun i => xs n fun j => mulC c.m (x j) (c.gen ((b[j]?).getD 0) i)) i = 0) ∧ BndF c (fun i => xs n fun j => mulC c.m (x j) (c.gen ((b[j]?).getD 0) i)) := by
   intro n
   induction n with
   | zero => intro _; exact ⟨redF_zero hc h.ok, fun i _ => ho.pos⟩
   | succ n ih =>
    intro hn
    obtain ⟨h2, h3⟩ := ih (by omega)
    have hgn : BndF c (c.gen ((b[n]?).getD 0)) := fun i _ => gen_lt hc _ _
    have hbn : BndF c (fun i => mulC c.m (x n) (c.gen ((b[n]?).getD 0) i)) := fun i hi => ho.lt _ _ (hx n (by omega)) (hgn i hi)
    refine ⟨fun i hi => ?_, fun i hi => ho.xor_lt (h3 i hi) (hbn i hi)⟩
    refine (redF_add hc h.ok h3 hbn i hi).trans ?_
    rw [h2 i hi, redF_sc hc (hx n (by omega)) h.ok hgn i hi, List.getElem?_eq_getElem (by omega), Option.getD_some, h.zero _ (List.getElem_mem (by omega)) i hi, ho.zero _ (hx n (by omega)), Nat.xor_self]
  exact (redF_congr h.ok (fun i hi => (h1 i hi).symm) i hi).trans ((key b.length (Nat.le_refl _)).1 i hi)
theorem recF_iff {c : CodeM} (hc : c.Ok) (h : List Bool) (u : Nat) : (∀ i, i < c.k → redF c (rowsF c ((basisL c (units h)).map fun p => ((units h)[p]?).getD 0)) (c.gen u) i = 0) ↔ recR c h u = true := by
 rw [(rowsF_ok hc _).iff hc (fun i _ => gen_lt hc u i), recR_iff hc]
 exact ⟨span_trans hc fun _ hx => span_mem hc (basis_sub c hc _ hx), span_trans hc fun _ hx => basis_span hc _ hx⟩
end Go.GF
end
section
namespace Go.Sl
open Go Go.RowKit Go.GF
def Keeps (wb : World) (F : HProp) : Prop := ∀ W P, Same wb W → Sat W (P * F) → Below wb.heap.size wb W
theorem Keeps.old (w : World) : Keeps w (old w) := fun _ _ h1 h2 => h1.below_of h2
theorem Keeps.star {wb : World} {F : HProp} (h : Keeps wb F) (X : HProp) : Keeps wb (X * F) := fun W P h1 h2 => h W (P * X) h1 (h2.perm (by ac_rfl))
theorem rowS_set {w : World} {F : HProp} {T : TypeId} {g : Nat × Nat} {C : Nat} {f : Nat → Nat} (h : Sat w (rowS T g C f * F)) {j : Nat} (hj : j < C) (x : Nat) :
  w.cell? ⟨g.1, j, none⟩ = some (.int .i64 ((f j : Nat) : Int)) ∧ w.frozen? ⟨g.1, j, none⟩ = false ∧ Sat (w.setCell ⟨g.1, j, none⟩ (.int .i64 (x : Int))) (rowS T g C (fun i => if i = j then x else f i) * F) := by
 obtain ⟨c, ⟨h1, h2, h3, h4⟩, hs⟩ := rowS_iff.1 h
 refine ⟨by rw [cells_at hs.block]; exact h4 j hj, thawed_at hs.block j, rowS_iff.2 ⟨c.setIfInBounds j (.int .i64 (x : Int)), ⟨h1, h2, by rw [Array.size_setIfInBounds, h3], fun i hi => ?_⟩, hs.setCell _⟩⟩
 rw [Array.getElem?_setIfInBounds]
 by_cases e : j = i
 ·subst e; rw [if_pos rfl, if_pos (by omega), if_pos rfl]
 ·rw [if_neg e, if_neg (Ne.symm e)]; exact h4 i hi
theorem rowS_at {w : World} {F : HProp} {T : TypeId} {g : Nat × Nat} {C : Nat} {f : Nat → Nat} (h : Sat w (rowS T g C f * F)) {j : Nat} (hj : j < C) : w.cell? ⟨g.1, j, none⟩ = some (.int .i64 ((f j : Nat) : Int)) := (rowS_set h hj 0).1
end Go.Sl
namespace Go.Proofs.YteikbikopgabjaaGreatDoor
open Go.RowKit Go.Sl Go.GF
abbrev TSpn : TypeId := 198
abbrev TRd : TypeId := 203
abbrev TRds : TypeId := 196
structure AdS (w : World) (gt gl : Nat × Nat) (C m f : Nat) (t l : Nat → Nat) (P F : HProp) (i : Value) (wr : World) : Prop where
 st : ∃ k : Nat, k ≤ C ∧ i = .int .i64 (k : Int) ∧ Same w wr ∧ Sat wr (rowS TI gt C (fun j => if j < k then t j ^^^ mulC m f (l j) else t j) * (P * (rowS TI gl C l * F)))
set_option maxRecDepth 20000 in
set_option maxHeartbeats 2000000 in
theorem spadd_any (m : Nat) (hm : isF m) (f C : Nat) (hf : f < 2 ^ m) (t l : Nat → Nat) (hC : C ≤ 1000) (ht : ∀ i, i < C → t i < 2 ^ m) (hl : ∀ i, i < C → l i < 2 ^ m) (gs : Nat) (sc : Array Value) (hsc : sc[1]? = some (.int .i64 (m : Int))) (gt gl : Nat × Nat) (F : HProp) (wb w : World) (hT : TabF wb) (hsm : Same wb w) (hK : Keeps wb F)
  (hS : Sat w (pts gs (.cells sc TSpn (0, 0)) * (rowS TI gt C t * (rowS TI gl C l * F)))) :
  Calls Tryz.prog 122 #[.pointer (some ⟨gs, 0, none⟩), hdrV C gt, .int .i64 (f : Int), hdrV C gl] w fun e w' => e = .returned (.tuple #[]) ∧ Same w w' ∧
   Sat w' (pts gs (.cells sc TSpn (0, 0)) * (rowS TI gt C (fun i => t i ^^^ mulC m f (l i)) * (rowS TI gl C l * F))) := by
 obtain ⟨ti3, hti3, hz03, hts3, hz23⟩ := info_parts info_int3
 have ho := opsC hm
 have h16 : 2 ^ m ≤ 65536 := by rcases hm with rfl | rfl <;> decide
 have HMU := Lib.hid (fun W (h : Same w W) P (h2 : Sat W (P * F)) i (hi : i < C) => mul_any m hm f (l i) hf (hl i hi) W (hT.below (hK W P (hsm.trans h) h2)))
 have HOB := Lib.hid (fun i (hi : i < C) => And.intro (ht i hi) (ho.lt _ _ hf (hl i hi)))
 have HX := Lib.hid (fun a b (ha : a < 2 ^ m) (hb : b < 2 ^ m) => ho.xor_lt ha hb)
 obtain ⟨P, hP⟩ : ∃ P, P = pts gs (.cells sc TSpn (0, 0)) := ⟨_, rfl⟩
 have HPC := Lib.hid (show ∀ W X, Sat W (X * (P * (rowS TI gl C l * F))) → W.cell? ⟨gs, 1, none⟩ = some (.int .i64 (m : Int)) from fun W X h => by
  rw [hP] at h
  have h2 := h.perm (show _ = pts gs (.cells sc TSpn (0, 0)) * (X * (rowS TI gl C l * F)) by ac_rfl)
  rw [cells_at h2.block]; exact hsc)
 have HPL := Lib.hid (show ∀ W X i, i < C → Sat W (X * (P * (rowS TI gl C l * F))) → W.cell? ⟨gl.1, i, none⟩ = some (.int .i64 ((l i : Nat) : Int)) from fun W X i hi h => rowS_at (h.perm (show _ = rowS TI gl C l * (X * (P * F)) by ac_rfl)) hi)
 have H0 := Lib.hid (show Sat w (rowS TI gt C (fun j => if j < 0 then t j ^^^ mulC m f (l j) else t j) * (P * (rowS TI gl C l * F))) from hS.perm (by
  rw [← hP, rowS_congr (f := fun j => if j < 0 then t j ^^^ mulC m f (l j) else t j) (f' := t) fun j _ => if_neg (by omega)]; ac_rfl))
 have HP := Lib.hid hP
 unfold hdrV
 clear hS hP hT hK hsm ht hl hf hm ho hz03 hz23
 go_enter Tryz.func122, Tryz.ntmps122
 go_wp2
 go_loopw [14] (fun i wr => AdS w gt gl C m f t l P F i wr) (fun i _ => C - (intOf i).toNat)
 case atStart => exact ⟨⟨0, Nat.zero_le _, rfl, Same.refl _, H0.out⟩⟩
 case round =>
  clear H0
  obtain ⟨k, hk, rfl, hsm, hst⟩ := hrel.st
  clear hrel
  have HS := Lib.hid (And.intro hsm hst)
  clear hsm hst
  have hk3 : (k : Int) ≤ 1000 := by omega
  by_cases hlt : k < C
  ·have hltd : decide ((k : Int) < (C : Int)) = true := decide_eq_true (by omega)
   have hkC : (k : Int) < (C : Int) := by omega
   have c1 := HPL.out wr _ k hlt HS.out.2
   have c0 := HPC.out wr _ HS.out.2
   obtain ⟨hb1, hb2⟩ := HOB.out k hlt
   have HMC := Lib.hid (HMU.out wr HS.out.1 (rowS TI gt C (fun j => if j < k then t j ^^^ mulC m f (l j) else t j) * (P * rowS TI gl C l)) (HS.out.2.perm (by ac_rfl)) k hlt)
   obtain ⟨lk, hlk⟩ : ∃ x, x = l k := ⟨_, rfl⟩
   obtain ⟨tk, htk⟩ : ∃ x, x = t k := ⟨_, rfl⟩
   obtain ⟨pk, hpk⟩ : ∃ x, x = mulC m f lk := ⟨_, rfl⟩
   rw [← hlk] at c1 HMC hb2
   rw [← hpk] at HMC hb2
   rw [← htk] at hb1
   have HE := Lib.hid (And.intro hlk (And.intro htk hpk))
   clear hlk htk hpk
   go_upto_region 4 with (go_at_call 147; refine HMC.out.mono ?_; rintro e w1 ⟨rfl, h1⟩; have HS1 := Lib.hid (And.intro (HS.out.1.below h1) (HS.out.2.below h1)); clear h1)
   obtain ⟨c2, f2, h9⟩ := rowS_set HS1.out.2 hlt (tk ^^^ pk)
   rw [if_neg (Nat.lt_irrefl k), ← HE.out.2.1] at c2
   have HS9 := Lib.hid (And.intro (HS1.out.1.setCell ⟨gt.1, k, none⟩ (.int .i64 ((tk ^^^ pk : Nat) : Int))) h9)
   clear h9 c0 c1
   have hxr : bits .xor .i64 (tk : Int) (pk : Int) = ((xorN tk pk : Nat) : Int) := i64_xor_nat' tk pk (by omega) (by omega)
   replace HS9 := Lib.hid (show Same w (w1.setCell ⟨gt.1, k, none⟩ (.int .i64 ((xorN tk pk : Nat) : Int))) ∧ Sat (w1.setCell ⟨gt.1, k, none⟩ (.int .i64 ((xorN tk pk : Nat) : Int))) ((rowS TI gt C fun i => if i = k then tk ^^^ pk else if i < k then t i ^^^ mulC m f (l i) else t i) * (P * (rowS TI gl C l * F))) from HS9.out)
   go_wp2
   go_roundw
   case rel => exact ⟨⟨k + 1, by omega, by push_cast; rfl, HS9.out.1, by
    have h := HS9.out.2
    rw [rowS_congr (f' := fun j => if j < k + 1 then t j ^^^ mulC m f (l j) else t j) fun j hj => by
     by_cases e : j = k
     ·subst e; rw [if_pos rfl, if_pos (by omega), HE.out.2.1, HE.out.2.2, HE.out.1]
     ·rw [if_neg e]
      by_cases e2 : j < k
      ·rw [if_pos e2, if_pos (by omega)]
      ·rw [if_neg e2, if_neg (by omega)]] at h
    exact h⟩⟩
   case measure => simp only [intOf]; omega
  ·have hke : k = C := by omega
   subst hke
   have hltd : decide ((k : Int) < (k : Int)) = false := decide_eq_false (by omega)
   go_wp2
   go_end0
   refine ⟨rfl, HS.out.1, ?_⟩
   have h := HS.out.2
   rw [rowS_congr (f' := fun j => t j ^^^ mulC m f (l j)) fun j hj => if_pos hj] at h
   exact h.perm (by rw [HP.out]; ac_rfl)
end Go.Proofs.YteikbikopgabjaaGreatDoor
end
section
namespace Go.Proofs.YteikbikopgabjaaGreatDoor
open Go.RowKit Go.Sl Go.GF
abbrev TPsn : TypeId := 172
def coefF (m : Nat) (f : Nat) (cf rc : Nat → Nat) : Nat → Nat := fun i => cf i ^^^ mulC m f (rc i)
def rdA (col : Nat) (k nb : Nat) (gr gc : Nat × Nat) : Array Value := #[.int .i64 (col : Int), hdrV k gr, hdrV nb gc]
def spVars (g6 g2 g7 gs k nb : Nat) (gt gco : Nat × Nat) (sc : Array Value) : HProp :=
 pts g6 (.cells #[hdrV k gt] 36 (0, 0)) * (pts g2 (.cells #[.pointer (some ⟨gs, 0, none⟩)] TPsn (0, 0)) * (pts g7 (.cells #[hdrV nb gco] 36 (0, 0)) * pts gs (.cells sc TSpn (0, 0))))
set_option maxRecDepth 20000 in
set_option maxHeartbeats 2000000 in
theorem red1_any (c : CodeM) (hc : c.Ok) (nb : Nat) (hk : c.k ≤ 1000) (hn : nb ≤ 1000) (r : RowF) (rc t cf : Nat → Nat) (hr : r.1 < c.k ∧ ∀ i, i < c.k → r.2 i < 2 ^ c.m) (ht : BndF c t) (hcf : ∀ i, i < nb → cf i < 2 ^ c.m) (hrc : ∀ i, i < nb → rc i < 2 ^ c.m)
  (g6 g2 g7 gs : Nat) (gt gco gr gc : Nat × Nat) (sc : Array Value) (hsc : sc[1]? = some (.int .i64 (c.m : Int))) (F : HProp) (wb w : World) (hT : TabF wb) (hsm : Same wb w) (hK : Keeps wb F)
  (hS : Sat w (spVars g6 g2 g7 gs c.k nb gt gco sc * (rowS TI gt c.k t * (rowS TI gco nb cf * (rowS TI gr c.k r.2 * (rowS TI gc nb rc * F)))))) :
  Calls Tryz.prog 145 #[.agg (rdA r.1 c.k nb gr gc), .pointer (some ⟨g6, 0, none⟩), .pointer (some ⟨g2, 0, none⟩), .pointer (some ⟨g7, 0, none⟩)] w fun e w' => e = .returned (.tuple #[]) ∧ Same w w' ∧
   Sat w' (spVars g6 g2 g7 gs c.k nb gt gco sc * (rowS TI gt c.k (stepF c t r) * (rowS TI gco nb (coefF c.m (t r.1) cf rc) * (rowS TI gr c.k r.2 * (rowS TI gc nb rc * F))))) := by
 have hkR : Tryz.prog.cellsOf TRd = 3 := by kernel_rfl
 have hm := hc.fld
 have ho := opsC hm
 obtain ⟨ti3, hti3, hz03, hts3, hz23⟩ := info_parts info_int3
 have HW0 := Lib.hid (And.intro ((Same.refl w).alloc (.cells (rdA r.1 c.k nb gr gc) TRd)) (hS.alloc (.cells (rdA r.1 c.k nb gr gc) TRd)))
 have HZ := Lib.hid (fun (h0 : t r.1 = 0) => And.intro (show ∀ i, i < c.k → stepF c t r i = t i from fun i hi => by unfold stepF; rw [h0, ho.zl (hr.2 i hi), Nat.xor_zero])
  (show ∀ i, i < nb → coefF c.m (t r.1) cf rc i = cf i from fun i hi => by unfold coefF; rw [h0, ho.zl (hrc i hi), Nat.xor_zero]))
 have hf : t r.1 < 2 ^ c.m := ht _ hr.1
 have HA1 := Lib.hid (fun X W (h1 : Same wb W) (h2 : Sat W (pts gs (.cells sc TSpn (0, 0)) * (rowS TI gt c.k t * (rowS TI gr c.k r.2 * (X * F))))) => spadd_any c.m hm (t r.1) c.k hf t r.2 hk ht hr.2 gs sc hsc gt gr (X * F) wb W hT h1 (hK.star X) h2)
 have HA2 := Lib.hid (fun X W (h1 : Same wb W) (h2 : Sat W (pts gs (.cells sc TSpn (0, 0)) * (rowS TI gco nb cf * (rowS TI gc nb rc * (X * F))))) => spadd_any c.m hm (t r.1) nb hf cf rc hn hcf hrc gs sc hsc gco gc (X * F) wb W hT h1 (hK.star X) h2)
 have HSM := Lib.hid hsm
 have hrk := hr.1
 obtain ⟨x, hx⟩ : ∃ x, x = t r.1 := ⟨_, rfl⟩
 have HX := Lib.hid hx
 rw [← hx] at HA1 HA2
 clear hS hT hsm hK hr ht hcf hrc hc hm ho hf hx hz03 hz23
 unfold rdA at HW0 ⊢
 have hrk2 : (r.1 : Int) < (c.k : Int) := by omega
 have hk2 : (c.k : Int) ≤ 1000 := by omega
 unfold hdrV at HW0 ⊢
 go_enter Tryz.func145, Tryz.ntmps145
 go_upto_region 1 with (fail)
 generalize w.alloc (.cells #[.int .i64 (r.1 : Int), .slice (some ⟨gr.1, 0, none⟩) c.k gr.2, .slice (some ⟨gc.1, 0, none⟩) nb gc.2] TRd) = w1 at HW0 ⊢
 generalize w.heap.size = g4 at HW0 ⊢
 obtain ⟨BX, hBX⟩ : ∃ BX, BX = pts g4 (.cells #[.int .i64 (r.1 : Int), .slice (some ⟨gr.1, 0, none⟩) c.k gr.2, .slice (some ⟨gc.1, 0, none⟩) nb gc.2] TRd (0, 0)) := ⟨_, rfl⟩
 have HBX := Lib.hid (show ∀ W X, Sat W (BX * X) → W.cell? ⟨g4, 0, none⟩ = some (.int .i64 (r.1 : Int)) ∧ W.cell? ⟨g4, 1, none⟩ = some (.slice (some ⟨gr.1, 0, none⟩) c.k gr.2) ∧ W.cell? ⟨g4, 2, none⟩ = some (.slice (some ⟨gc.1, 0, none⟩) nb gc.2) from fun W X h => by
  rw [hBX] at h
  exact ⟨by rw [cells_at h.block]; rfl, by rw [cells_at h.block]; rfl, by rw [cells_at h.block]; rfl⟩)
 rw [← hBX] at HW0
 clear hBX
 have HV := Lib.hid (show ∀ W X, Sat W (spVars g6 g2 g7 gs c.k nb gt gco sc * X) → W.cell? ⟨g6, 0, none⟩ = some (.slice (some ⟨gt.1, 0, none⟩) c.k gt.2) ∧ W.cell? ⟨g2, 0, none⟩ = some (.pointer (some ⟨gs, 0, none⟩)) ∧ W.cell? ⟨g7, 0, none⟩ = some (.slice (some ⟨gco.1, 0, none⟩) nb gco.2) from fun W X h => by
  unfold spVars at h
  have h1 := h.perm (show _ = pts g6 (.cells #[hdrV c.k gt] 36 (0, 0)) * (pts g2 (.cells #[.pointer (some ⟨gs, 0, none⟩)] TPsn (0, 0)) * pts g7 (.cells #[hdrV nb gco] 36 (0, 0)) * pts gs (.cells sc TSpn (0, 0)) * X) by ac_rfl)
  have h2 := h.perm (show _ = pts g2 (.cells #[.pointer (some ⟨gs, 0, none⟩)] TPsn (0, 0)) * (pts g6 (.cells #[hdrV c.k gt] 36 (0, 0)) * pts g7 (.cells #[hdrV nb gco] 36 (0, 0)) * pts gs (.cells sc TSpn (0, 0)) * X) by ac_rfl)
  have h3 := h.perm (show _ = pts g7 (.cells #[hdrV nb gco] 36 (0, 0)) * (pts g2 (.cells #[.pointer (some ⟨gs, 0, none⟩)] TPsn (0, 0)) * pts g6 (.cells #[hdrV c.k gt] 36 (0, 0)) * pts gs (.cells sc TSpn (0, 0)) * X) by ac_rfl)
  exact ⟨by rw [cells_at h1.block]; rfl, by rw [cells_at h2.block]; rfl, by rw [cells_at h3.block]; rfl⟩)
 obtain ⟨b0, b1, b2⟩ := HBX.out w1 _ HW0.out.2
 obtain ⟨v6, v2, v7⟩ := HV.out w1 _ HW0.out.2.right
 have ct : w1.cell? ⟨gt.1, r.1, none⟩ = some (.int .i64 (x : Int)) := by
  have h := rowS_at (HW0.out.2.perm (show _ = rowS TI gt c.k t * (BX * (spVars g6 g2 g7 gs c.k nb gt gco sc * (rowS TI gco nb cf * (rowS TI gr c.k r.2 * (rowS TI gc nb rc * F))))) by ac_rfl)) hrk
  rwa [← HX.out] at h
 by_cases h0 : x = 0
 ·subst h0
  obtain ⟨z1, z2⟩ := HZ.out HX.out.symm
  have HE := Lib.hid (And.intro (rowS_congr (T := TI) (g := gt) z1) (rowS_congr (T := TI) (g := gco) z2))
  have hq : (((0 : Nat) : Int) != 0) = false := rfl
  clear z1 z2 HZ HA1 HA2
  go_wp2
  go_end0
  refine ⟨rfl, HW0.out.1, ?_⟩
  rw [HE.out.1, HE.out.2]
  exact HW0.out.2.right
 ·have hq : ((x : Int) != 0) = true := by simp; omega
  have HXX := Lib.hid (show Sat w1 (pts gs (.cells sc TSpn (0, 0)) * (rowS TI gt c.k t * (rowS TI gr c.k r.2 * ((BX * (pts g6 (.cells #[hdrV c.k gt] 36 (0, 0)) * (pts g2 (.cells #[.pointer (some ⟨gs, 0, none⟩)] TPsn (0, 0)) * (pts g7 (.cells #[hdrV nb gco] 36 (0, 0)) * (rowS TI gco nb cf * rowS TI gc nb rc))))) * F)))) from HW0.out.2.perm (by unfold spVars; ac_rfl))
  have HC1 := Lib.hid (HA1.out _ w1 (HSM.out.trans HW0.out.1) HXX.out)
  go_upto_region 4 with (go_at_call 122; refine HC1.out.mono ?_; rintro e w2 ⟨rfl, h1, h2⟩; have HS2 := Lib.hid (And.intro (HW0.out.1.trans h1) h2); clear h1 h2)
  have HS3 := Lib.hid (show Sat w2 (pts gs (.cells sc TSpn (0, 0)) * (rowS TI gco nb cf * (rowS TI gc nb rc * ((BX * (pts g6 (.cells #[hdrV c.k gt] 36 (0, 0)) * (pts g2 (.cells #[.pointer (some ⟨gs, 0, none⟩)] TPsn (0, 0)) * (pts g7 (.cells #[hdrV nb gco] 36 (0, 0)) * (rowS TI gt c.k (fun i => t i ^^^ mulC c.m x (r.2 i)) * rowS TI gr c.k r.2))))) * F)))) from HS2.out.2.perm (by ac_rfl))
  have HC2 := Lib.hid (HA2.out _ w2 (HSM.out.trans HS2.out.1) HS3.out)
  have hs4 := HS3.out.perm (show _ = BX * (spVars g6 g2 g7 gs c.k nb gt gco sc * (rowS TI gco nb cf * (rowS TI gc nb rc * (rowS TI gt c.k (fun i => t i ^^^ mulC c.m x (r.2 i)) * (rowS TI gr c.k r.2 * F))))) by unfold spVars; ac_rfl)
  clear b0 b1 b2 v6 v2 v7 ct
  obtain ⟨b0, b1, b2⟩ := HBX.out w2 _ hs4
  obtain ⟨v6, v2, v7⟩ := HV.out w2 _ hs4.right
  clear hs4
  go_wp2_with (go_at_call 122; refine HC2.out.mono ?_; rintro e w3 ⟨rfl, h1, h2⟩; have HS4 := Lib.hid (And.intro (HS2.out.1.trans h1) h2); clear h1 h2)
  go_end0
  refine ⟨rfl, HS4.out.1, ?_⟩
  have h := HS4.out.2
  have e1 : (fun i => t i ^^^ mulC c.m x (r.2 i)) = stepF c t r := by unfold stepF; rw [← HX.out]
  have e2 : (fun i => cf i ^^^ mulC c.m x (rc i)) = coefF c.m (t r.1) cf rc := by unfold coefF; rw [← HX.out]
  rw [e1, e2] at h
  exact (h.perm (show _ = BX * (spVars g6 g2 g7 gs c.k nb gt gco sc * (rowS TI gt c.k (stepF c t r) * (rowS TI gco nb (coefF c.m (t r.1) cf rc) * (rowS TI gr c.k r.2 * (rowS TI gc nb rc * F))))) by unfold spVars; ac_rfl)).right
end Go.Proofs.YteikbikopgabjaaGreatDoor
end
