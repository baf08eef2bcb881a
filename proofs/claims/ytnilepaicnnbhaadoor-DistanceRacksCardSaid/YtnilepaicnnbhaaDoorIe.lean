/- How many losses a code bears: plain laws. They speak of no program. -/
import Derived.Test.YtnilepaicnnbhaaDoorId
namespace Go.GF

/-- All choices of k elements, in the order of their places. -/
def subsL {α : Type} : List α → Nat → List (List α)
  | _, 0 => [[]]
  | [], _ + 1 => []
  | x :: r, k + 1 => (subsL r k).map (x :: ·) ++ subsL r (k + 1)
theorem mem_subsL {α : Type} : ∀ {l s : List α} {k : Nat}, s ∈ subsL l k ↔ s.Sublist l ∧ s.length = k
  | l, s, 0 => by
    have e : subsL l 0 = [[]] := by cases l <;> rfl
    rw [e, List.mem_singleton]
    constructor
    · rintro rfl; exact ⟨List.nil_sublist _, rfl⟩
    · rintro ⟨_, h⟩; exact List.eq_nil_of_length_eq_zero h
  | [], s, k + 1 => by
    simp only [subsL, List.not_mem_nil, false_iff]
    rintro ⟨h1, h2⟩
    rw [List.sublist_nil.1 h1] at h2
    simp at h2
  | x :: r, s, k + 1 => by
    simp only [subsL, List.mem_append, List.mem_map]
    constructor
    · rintro (⟨t, ht, rfl⟩ | h)
      · obtain ⟨h1, h2⟩ := mem_subsL.1 ht
        exact ⟨h1.cons_cons x, by simp [h2]⟩
      · obtain ⟨h1, h2⟩ := mem_subsL.1 h
        exact ⟨h1.cons x, h2⟩
    · rintro ⟨h1, h2⟩
      cases h1 with
      | cons _ h => exact .inr (mem_subsL.2 ⟨h, h2⟩)
      | cons_cons _ h => exact .inl ⟨_, mem_subsL.2 ⟨h, by simpa using h2⟩, rfl⟩

/-- The units without those of a set. -/
def minusL (h : List Bool) (s : List Nat) : List Bool := s.foldl (fun h u => h.set u false) h
theorem minusL_len (h : List Bool) (s : List Nat) : (minusL h s).length = h.length := by
  unfold minusL
  induction s generalizing h with
  | nil => rfl
  | cons u r ih => rw [List.foldl_cons, ih, List.length_set]
theorem minusL_at {h : List Bool} {s : List Nat} {u : Nat} : (minusL h s)[u]? = some true ↔ h[u]? = some true ∧ u ∉ s := by
  unfold minusL
  induction s generalizing h with
  | nil => simp
  | cons v r ih =>
    rw [List.foldl_cons, ih, List.getElem?_set]
    by_cases e : v = u
    · subst e
      simp
    · rw [if_neg e]
      simp [Ne.symm e]
theorem bools_ext {a b : List Bool} (hl : a.length = b.length) (h : ∀ u : Nat, a[u]? = some true ↔ b[u]? = some true) : a = b := by
  apply List.ext_getElem?
  intro i
  have hi := h i
  rcases Nat.lt_or_ge i a.length with h1 | h1
  · rw [List.getElem?_eq_getElem h1, List.getElem?_eq_getElem (by omega)] at hi ⊢
    cases hx : a[i] <;> cases hy : b[i]'(by omega) <;> rw [hx, hy] at hi <;> simp_all
  · rw [List.getElem?_eq_none h1, List.getElem?_eq_none (by omega)]
theorem units_nodup (h : List Bool) : (units h).Nodup := (List.nodup_range).sublist List.filter_sublist
theorem nodup_len : ∀ {α : Type} [DecidableEq α] {l m : List α}, l.Nodup → l ⊆ m → l.length ≤ m.length := by
  intro α _ l
  induction l with
  | nil => intro m _ _; simp
  | cons x r ih =>
    intro m h hs
    obtain ⟨h1, h2⟩ := List.nodup_cons.1 h
    have hx : x ∈ m := hs (by simp)
    have := ih (m := m.erase x) h2 fun y hy => by
      have hne : y ≠ x := by
        intro e; subst e; exact h1 hy
      rw [List.mem_erase_of_ne hne]
      exact hs (by simp [hy])
    rw [List.length_erase_of_mem hx] at this
    have := List.length_pos_of_mem hx
    rw [List.length_cons]; omega
/-- The units of a list that are in another one, in order. -/
theorem pick_sub {l s : List Nat} : (l.filter fun u => s.contains u).Sublist l := List.filter_sublist

/-! ### the search -/
def firstL {α : Type} (dec : List α → Bool) (l : List α) : Nat → Nat → Nat × List α
  | 0, f => (f, [])
  | n + 1, f => match (subsL l (f + 1)).find? fun s => !dec s with
    | some s => (f, s)
    | none => firstL dec l n (f + 1)
theorem firstL_ge {α : Type} (dec : List α → Bool) (l : List α) : ∀ n f, f ≤ (firstL dec l n f).1 ∧ (firstL dec l n f).1 ≤ f + n
  | 0, f => ⟨Nat.le_refl _, Nat.le_refl _⟩
  | n + 1, f => by
    unfold firstL
    cases (subsL l (f + 1)).find? fun s => !dec s with
    | some s => exact ⟨Nat.le_refl _, by simp⟩
    | none =>
      have := firstL_ge dec l n (f + 1)
      simp only
      omega
/-- What is found is bad. -/
theorem firstL_bad {α : Type} {dec : List α → Bool} {l : List α} : ∀ {n f : Nat}, (firstL dec l n f).1 < f + n → (firstL dec l n f).2.Sublist l ∧ (firstL dec l n f).2.length = (firstL dec l n f).1 + 1 ∧ dec (firstL dec l n f).2 = false
  | 0, f, h => absurd h (by simp [firstL])
  | n + 1, f, h => by
    unfold firstL at h ⊢
    cases hf : (subsL l (f + 1)).find? fun s => !dec s with
    | some s =>
      simp only
      obtain ⟨h1, h2⟩ := mem_subsL.1 (List.mem_of_find?_eq_some hf)
      have := List.find?_some hf
      exact ⟨h1, h2, by simpa using this⟩
    | none =>
      rw [hf] at h
      simp only at h ⊢
      exact firstL_bad (by omega)
/-- Nothing smaller is bad. -/
theorem firstL_ok {α : Type} {dec : List α → Bool} {l : List α} : ∀ {n f : Nat} {s : List α}, s.Sublist l → f < s.length → s.length ≤ (firstL dec l n f).1 → dec s = true
  | 0, f, s, _, h1, h2 => absurd h2 (by simp [firstL]; omega)
  | n + 1, f, s, hs, h1, h2 => by
    unfold firstL at h2
    cases hf : (subsL l (f + 1)).find? fun s => !dec s with
    | some t => rw [hf] at h2; simp at h2; omega
    | none =>
      rw [hf] at h2
      simp only at h2
      by_cases e : s.length = f + 1
      · have := List.find?_eq_none.1 hf s (mem_subsL.2 ⟨hs, e⟩)
        simpa using this
      · exact firstL_ok hs (by omega) h2
/-- At least f: nothing of at most f elements is bad. -/
theorem firstL_iff {α : Type} {dec : List α → Bool} {l : List α} {n f : Nat} (hf : f ≤ n) : f ≤ (firstL dec l n 0).1 ↔ ∀ s : List α, s.Sublist l → 0 < s.length → s.length ≤ f → dec s = true := by
  constructor
  · intro h s h1 h2 h3
    exact firstL_ok (n := n) h1 h2 (by omega)
  · intro h
    apply Classical.byContradiction
    intro hlt
    obtain ⟨h1, h2, h3⟩ := firstL_bad (dec := dec) (l := l) (n := n) (f := 0) (by omega)
    rw [h _ h1 (by omega) (by omega)] at h3
    cases h3

/-! ### units -/
/-- Left and Fatal of a valid code: (-1, nothing) where the units do not suffice. -/
def searchM (c : CodeM) (h : List Bool) : Int × List Nat :=
  if decL c h = false then (-1, []) else (((firstL (fun s => decL c (minusL h s)) (units h) 4 0).1 : Int), (firstL (fun s => decL c (minusL h s)) (units h) 4 0).2)
theorem search_lo (c : CodeM) (h : List Bool) : -1 ≤ (searchM c h).1 ∧ (searchM c h).1 ≤ 4 := by
  have := firstL_ge (fun s => decL c (minusL h s)) (units h) 4 0
  unfold searchM
  split <;> simp <;> omega
/-- At least f: without any at most f further units they suffice. -/
theorem search_iff {c : CodeM} {h : List Bool} {f : Nat} (hf : f ≤ 4) : (f : Int) ≤ (searchM c h).1 ↔ ∀ s : List Nat, s.Nodup → s.length ≤ f → decL c (minusL h s) = true := by
  unfold searchM
  cases hd : decL c h with
  | false =>
    rw [if_pos rfl]
    constructor
    · intro h1; simp at h1; omega
    · intro h1
      have := h1 [] List.nodup_nil (by simp)
      rw [show minusL h [] = h from rfl, hd] at this
      cases this
  | true =>
    rw [if_neg (by decide)]
    simp only
    rw [Int.ofNat_le, firstL_iff hf]
    constructor
    · intro h1 s hs hl
      have hpl : ((units h).filter fun u => s.contains u).length ≤ s.length := nodup_len ((units_nodup h).sublist List.filter_sublist) fun u hu => by
        have := (List.mem_filter.1 hu).2
        simpa using this
      have he : minusL h s = minusL h ((units h).filter fun u => s.contains u) := bools_ext (by rw [minusL_len, minusL_len]) fun u => by
        rw [minusL_at, minusL_at, List.mem_filter, mem_units]
        constructor
        · rintro ⟨a, b⟩; exact ⟨a, fun h => b (by simpa using h.2)⟩
        · rintro ⟨a, b⟩; exact ⟨a, fun h => b ⟨a, by simpa using h⟩⟩
      rw [he]
      rcases Nat.eq_zero_or_pos ((units h).filter fun u => s.contains u).length with h0 | h0
      · rw [List.eq_nil_of_length_eq_zero h0]
        exact hd
      · exact h1 _ List.filter_sublist h0 (by omega)
    · intro h1 s hs _ hl
      exact h1 s ((units_nodup h).sublist hs) hl
theorem search_bad {c : CodeM} {h : List Bool} (h0 : 0 ≤ (searchM c h).1) (h4 : (searchM c h).1 ≠ 4) : (searchM c h).2.Sublist (units h) ∧ ((searchM c h).2.length : Int) = (searchM c h).1 + 1 ∧ decL c (minusL h (searchM c h).2) = false := by
  unfold searchM at h0 h4 ⊢
  split
  · rename_i hd; rw [if_pos hd] at h0; simp at h0
  · rename_i hd
    rw [if_neg hd] at h0 h4
    have hb := firstL_ge (fun s => decL c (minusL h s)) (units h) 4 0
    obtain ⟨h1, h2, h3⟩ := firstL_bad (dec := fun s => decL c (minusL h s)) (l := units h) (n := 4) (f := 0) (by simp only at h4; omega)
    exact ⟨h1, by simp only; omega, h3⟩
theorem search_nil {c : CodeM} {h : List Bool} (h0 : (searchM c h).1 < 0 ∨ (searchM c h).1 = 4) : (searchM c h).2 = [] := by
  unfold searchM at h0 ⊢
  split
  · rfl
  · rename_i hd
    rw [if_neg hd] at h0
    have : ∀ n f, (firstL (fun s => decL c (minusL h s)) (units h) n f).1 = f + n → (firstL (fun s => decL c (minusL h s)) (units h) n f).2 = [] := by
      intro n
      induction n with
      | zero => intro f _; rfl
      | succ n ih =>
        intro f hf
        unfold firstL at hf ⊢
        cases hx : (subsL (units h) (f + 1)).find? fun s => !decL c (minusL h s) with
        | some s => rw [hx] at hf; simp only at hf; omega
        | none => rw [hx] at hf; simp only at hf ⊢; exact ih (f + 1) (by omega)
    simp only at h0 ⊢
    exact this 4 0 (by omega)

/-- One more missing unit. -/
theorem search_step {c : CodeM} (hc : c.Ok) (h : List Bool) (u : Nat) : (searchM c (minusL h [u])).1 ≤ (searchM c h).1 ∧ (searchM c h).1 - 1 ≤ (searchM c (minusL h [u])).1 := by
  have hb := search_lo c h
  have hb' := search_lo c (minusL h [u])
  have cons : ∀ s : List Nat, minusL (minusL h [u]) s = minusL h (u :: s) := fun s => rfl
  constructor
  · rcases Int.lt_or_le (searchM c (minusL h [u])).1 0 with h0 | h0
    · omega
    · obtain ⟨f, hf⟩ := Int.eq_ofNat_of_zero_le h0
      rw [hf]
      rw [search_iff (by omega)]
      intro s hs hl
      have h1 := (search_iff (c := c) (h := minusL h [u]) (f := f) (by omega)).1 (by rw [hf]; exact Int.le_refl _) s hs hl
      exact decL_mono hc (fun v hv => by
        rw [minusL_at, minusL_at] at hv
        rw [minusL_at]
        exact ⟨hv.1.1, hv.2⟩) h1
  · rcases Int.lt_or_le (searchM c h).1 1 with h0 | h0
    · omega
    · obtain ⟨f, hf⟩ := Int.eq_ofNat_of_zero_le (show 0 ≤ (searchM c h).1 - 1 by omega)
      rw [hf]
      rw [search_iff (by omega)]
      intro s hs hl
      by_cases hu : u ∈ s
      · have he : minusL (minusL h [u]) s = minusL h s := bools_ext (by simp [minusL_len]) fun v => by
          rw [minusL_at, minusL_at, minusL_at]
          constructor
          · rintro ⟨⟨a, _⟩, b⟩; exact ⟨a, b⟩
          · rintro ⟨a, b⟩; exact ⟨⟨a, fun e => b (by rw [List.mem_singleton.1 e]; exact hu)⟩, b⟩
        rw [he]
        exact (search_iff (c := c) (h := h) (f := f + 1) (by omega)).1 (by omega) s hs (by omega)
      · rw [cons]
        exact (search_iff (c := c) (h := h) (f := f + 1) (by omega)).1 (by omega) (u :: s) (List.nodup_cons.2 ⟨hu, hs⟩) (by rw [List.length_cons]; omega)
/-- At most as many as parity units. -/
theorem search_par {c : CodeM} (hc : c.Ok) {h : List Bool} (hl : h.length = c.n) : (searchM c h).1 ≤ (c.par.length : Int) := by
  apply Classical.byContradiction
  intro hlt
  have hb := search_lo c h
  have h1 := (search_iff (c := c) (h := h) (f := c.par.length + 1) (by omega)).1 (by omega) (List.range (c.par.length + 1)) List.nodup_range (by simp)
  rw [decL_few hc (by
    have h2 : (units (minusL h (List.range (c.par.length + 1)))).length ≤ ((List.range h.length).drop (c.par.length + 1)).length := nodup_len (units_nodup _) fun v hv => by
      rw [mem_units, minusL_at, List.mem_range] at hv
      have := (List.getElem?_eq_some_iff.1 hv.1).1
      rw [List.mem_drop_iff_getElem]
      refine ⟨v - (c.par.length + 1), by simp; omega, ?_⟩
      simp; omega
    rw [List.length_drop, List.length_range, hl] at h2
    unfold CodeM.n at h2
    have := hc.pos
    omega)] at h1
  cases h1

/-! ### racks -/
/-- Which units are there without some racks. -/
def lostR (racks : List Int) (s : List Int) : List Bool := racks.map fun k => !s.contains k
theorem lostR_at {racks s : List Int} {u : Nat} : (lostR racks s)[u]? = some true ↔ ∃ k, racks[u]? = some k ∧ k ∉ s := by
  unfold lostR
  rw [List.getElem?_map]
  cases racks[u]? <;> simp
theorem nodup_map {α β : Type} {f : α → β} (hf : ∀ a b, f a = f b → a = b) {l : List α} (h : l.Nodup) : (l.map f).Nodup := List.Pairwise.map f (fun a b hab e => hab (hf a b e)) h
/-- How many racks, any, may be lost; names: the racks that there are, each once. -/
def racksM (c : CodeM) (names racks : List Int) : Nat := (firstL (fun s => decL c (lostR racks s)) names (min 4 names.length) 0).1
theorem racks_lo (c : CodeM) (names racks : List Int) : racksM c names racks ≤ 4 ∧ racksM c names racks ≤ names.length := by
  have := (firstL_ge (fun s => decL c (lostR racks s)) names (min 4 names.length) 0).2
  unfold racksM
  omega
theorem lost_all {c : CodeM} (hc : c.Ok) {racks s : List Int} (h : ∀ k ∈ racks, k ∈ s) : decL c (lostR racks s) = false := by
  refine decL_few hc ?_
  have : units (lostR racks s) = [] := by
    apply List.eq_nil_iff_forall_not_mem.2
    intro u hu
    rw [mem_units, lostR_at] at hu
    obtain ⟨k, h1, h2⟩ := hu
    exact h2 (h k (List.mem_of_getElem? h1))
  rw [this]
  exact hc.pos
theorem racks_iff {c : CodeM} (hc : c.Ok) {names racks : List Int} (hn : names.Nodup) (hm : ∀ k, k ∈ names ↔ k ∈ racks) {g : Nat} (hg : g ≤ 4) (h0 : decL c (lostR racks []) = true) :
    g ≤ racksM c names racks ↔ ∀ s : List Int, s.Nodup → s.length ≤ g → decL c (lostR racks s) = true := by
  have hfil : ∀ s : List Int, lostR racks s = lostR racks (names.filter fun k => s.contains k) := by
    intro s
    unfold lostR
    apply List.map_congr_left
    intro k hk
    have h1 := (hm k).2 hk
    rw [Bool.not_inj_iff, Bool.eq_iff_iff, List.contains_iff_mem, List.contains_iff_mem, List.mem_filter, List.contains_iff_mem]
    exact ⟨fun h => ⟨h1, h⟩, fun h => h.2⟩
  have hlen : ∀ s : List Int, s.Nodup → (names.filter fun k => s.contains k).length ≤ s.length := fun s _ => nodup_len (hn.sublist List.filter_sublist) fun u hu => by
    have := (List.mem_filter.1 hu).2
    simpa using this
  by_cases hle : g ≤ min 4 names.length
  · unfold racksM
    rw [firstL_iff hle]
    constructor
    · intro h s hs hl
      rw [hfil s]
      rcases Nat.eq_zero_or_pos (names.filter fun k => s.contains k).length with e | e
      · rw [List.eq_nil_of_length_eq_zero e]; exact h0
      · exact h _ List.filter_sublist e (by have := hlen s hs; omega)
    · intro h s hs _ hl
      exact h s (hn.sublist hs) hl
  · constructor
    · intro h
      have := racks_lo c names racks
      omega
    · intro h
      have := h names hn (by omega)
      rw [lost_all hc fun k hk => (hm k).2 hk] at this
      cases this
theorem lost_none (c : CodeM) (hc : c.Ok) {racks : List Int} (hl : racks.length = c.n) : decL c (lostR racks []) = true := by
  refine decL_all hc fun u hu => ?_
  rw [lostR_at]
  have : u < racks.length := by rw [hl]; unfold CodeM.n; omega
  exact ⟨racks[u], List.getElem?_eq_getElem this, by simp⟩
theorem nat_eq_of {a b : Nat} (ha : a ≤ 4) (hb : b ≤ 4) (h : ∀ g, g ≤ 4 → (g ≤ a ↔ g ≤ b)) : a = b := by
  have h1 := (h a ha).1 (Nat.le_refl _)
  have h2 := (h b hb).2 (Nat.le_refl _)
  omega
/-- Merging racks, or renaming them, keeps no fewer promises lost. -/
theorem racks_map {c : CodeM} (hc : c.Ok) {racks names names' : List Int} (φ : Int → Int) (hl : racks.length = c.n) (hn : names.Nodup) (hm : ∀ k, k ∈ names ↔ k ∈ racks) (hn' : names'.Nodup) (hm' : ∀ k, k ∈ names' ↔ k ∈ racks.map φ) :
    racksM c names' (racks.map φ) ≤ racksM c names racks := by
  have hb := racks_lo c names' (racks.map φ)
  rw [racks_iff hc hn hm hb.1 (lost_none c hc hl)]
  intro s hs hl2
  have h1 := (racks_iff hc hn' hm' hb.1 (lost_none c hc (by rw [List.length_map]; exact hl))).1 (Nat.le_refl _) (names'.filter fun k => (s.map φ).contains k) (hn'.sublist List.filter_sublist) (by
    have : (names'.filter fun k => (s.map φ).contains k).length ≤ (s.map φ).length := nodup_len (hn'.sublist List.filter_sublist) fun u hu => by
      have := (List.mem_filter.1 hu).2
      exact List.contains_iff_mem.1 this
    rw [List.length_map] at this
    omega)
  refine decL_mono hc (fun u hu => ?_) h1
  rw [lostR_at] at hu ⊢
  obtain ⟨k', hk', hns⟩ := hu
  rw [List.getElem?_map] at hk'
  obtain ⟨k, hk, rfl⟩ := Option.map_eq_some_iff.1 hk'
  refine ⟨k, hk, fun hks => hns (List.mem_filter.2 ⟨(hm' _).2 (List.mem_map.2 ⟨k, List.mem_of_getElem? hk, rfl⟩), ?_⟩)⟩
  exact List.contains_iff_mem.2 (List.mem_map.2 ⟨k, hks, rfl⟩)
theorem racks_rename {c : CodeM} (hc : c.Ok) {racks names names' : List Int} (φ ψ : Int → Int) (hψ : ∀ k, ψ (φ k) = k) (hl : racks.length = c.n) (hn : names.Nodup) (hm : ∀ k, k ∈ names ↔ k ∈ racks) (hn' : names'.Nodup) (hm' : ∀ k, k ∈ names' ↔ k ∈ racks.map φ) :
    racksM c names' (racks.map φ) = racksM c names racks := by
  have h1 := racks_map hc φ hl hn hm hn' hm'
  have h2 := racks_map hc (racks := racks.map φ) ψ (by rw [List.length_map]; exact hl) hn' hm' (names' := names) hn (fun k => by
    rw [hm k, List.map_map]
    have : racks.map (ψ ∘ φ) = racks := by
      conv => rhs; rw [← List.map_id racks]
      exact List.map_congr_left fun k _ => hψ k
    rw [this])
  rw [List.map_map] at h2
  have e : racks.map (ψ ∘ φ) = racks := by
    conv => rhs; rw [← List.map_id racks]
    exact List.map_congr_left fun k _ => hψ k
  rw [e] at h2
  omega
/-- Every unit in a rack of its own. -/
theorem racks_own {c : CodeM} (hc : c.Ok) {names : List Int} (own : Nat → Int) (hinj : ∀ a b, own a = own b → a = b) (hn : names.Nodup) (hm : ∀ k, k ∈ names ↔ k ∈ (List.range c.n).map own) :
    ((racksM c names ((List.range c.n).map own) : Nat) : Int) = (searchM c (List.replicate c.n true)).1 := by
  have hl : ((List.range c.n).map own).length = c.n := by simp
  have hall : decL c (List.replicate c.n true) = true := decL_all hc fun u hu => by
    rw [List.getElem?_replicate, if_pos (by unfold CodeM.n; omega)]
  have h0 : 0 ≤ (searchM c (List.replicate c.n true)).1 := by
    have := (search_iff (c := c) (h := List.replicate c.n true) (f := 0) (by omega)).2 (fun s _ hs => by
      obtain rfl : s = [] := List.eq_nil_of_length_eq_zero (by omega)
      exact hall)
    exact this
  obtain ⟨f, hf⟩ := Int.eq_ofNat_of_zero_le h0
  have hb := search_lo c (List.replicate c.n true)
  have hbr := racks_lo c names ((List.range c.n).map own)
  rw [hf]
  congr 1
  refine nat_eq_of hbr.1 (by omega) fun g hg => ?_
  rw [racks_iff hc hn hm hg (lost_none c hc hl)]
  have hs := search_iff (c := c) (h := List.replicate c.n true) hg
  rw [hf, Int.ofNat_le] at hs
  rw [hs]
  constructor
  · intro h s hsn hl2
    have := h (s.map own) (nodup_map hinj hsn) (by rw [List.length_map]; exact hl2)
    have e : lostR ((List.range c.n).map own) (s.map own) = minusL (List.replicate c.n true) s := bools_ext (by simp [lostR, minusL_len]) fun u => by
      rw [lostR_at, minusL_at, List.getElem?_replicate, List.getElem?_map]
      by_cases hu : u < c.n
      · rw [List.getElem?_range hu, if_pos hu]
        constructor
        · rintro ⟨k, hk, hns⟩
          simp only [Option.map_some, Option.some.injEq] at hk
          subst hk
          exact ⟨rfl, fun h => hns (List.mem_map.2 ⟨u, h, rfl⟩)⟩
        · rintro ⟨_, hns⟩
          refine ⟨own u, rfl, fun h => hns ?_⟩
          obtain ⟨v, hv, e⟩ := List.mem_map.1 h
          rw [← hinj _ _ e]; exact hv
      · rw [if_neg hu, List.getElem?_eq_none (by simpa using hu)]
        simp
    rw [← e]; exact this
  · intro h s hsn hl2
    have hlen : ((List.range c.n).filter fun u => s.contains (own u)).length ≤ s.length := by
      have := nodup_len (m := s) (nodup_map hinj ((List.nodup_range (n := c.n)).sublist (List.filter_sublist (p := fun u => s.contains (own u))))) fun k hk => by
        obtain ⟨u, hu, rfl⟩ := List.mem_map.1 hk
        exact List.contains_iff_mem.1 (List.mem_filter.1 hu).2
      rwa [List.length_map] at this
    have := h ((List.range c.n).filter fun u => s.contains (own u)) ((List.nodup_range (n := c.n)).sublist List.filter_sublist) (by omega)
    have e : lostR ((List.range c.n).map own) s = minusL (List.replicate c.n true) ((List.range c.n).filter fun u => s.contains (own u)) := bools_ext (by simp [lostR, minusL_len]) fun u => by
      rw [lostR_at, minusL_at, List.getElem?_replicate, List.getElem?_map]
      by_cases hu : u < c.n
      · rw [List.getElem?_range hu, if_pos hu, List.mem_filter, List.mem_range]
        constructor
        · rintro ⟨k, hk, hns⟩
          simp only [Option.map_some, Option.some.injEq] at hk
          subst hk
          exact ⟨rfl, fun h => hns (List.contains_iff_mem.1 h.2)⟩
        · rintro ⟨_, hns⟩
          exact ⟨own u, rfl, fun h => hns ⟨hu, List.contains_iff_mem.2 h⟩⟩
      · rw [if_neg hu, List.getElem?_eq_none (by simpa using hu)]
        simp
    rw [e]; exact this
/-- All units in one rack. -/
theorem racks_one {c : CodeM} (hc : c.Ok) {names racks : List Int} {x : Int} (hn : names.Nodup) (hm : ∀ k, k ∈ names ↔ k ∈ racks) (hl : racks.length = c.n) (hx : ∀ k ∈ racks, k = x) : racksM c names racks = 0 := by
  apply Classical.byContradiction
  intro h
  have := (racks_iff hc hn hm (g := 1) (by omega) (lost_none c hc hl)).1 (by omega) [x] (by simp) (by simp)
  rw [lost_all hc fun k hk => by rw [hx k hk]; simp] at this
  cases this
/-- All units: no fewer than none may be lost. -/
theorem search_all {c : CodeM} (hc : c.Ok) : 0 ≤ (searchM c (List.replicate c.n true)).1 := by
  have := (search_iff (c := c) (h := List.replicate c.n true) (f := 0) (by omega)).2 (fun s _ hs => by
    obtain rfl : s = [] := List.eq_nil_of_length_eq_zero (by omega)
    exact decL_all hc fun u hu => by rw [show minusL (List.replicate c.n true) [] = List.replicate c.n true from rfl, List.getElem?_replicate, if_pos (by unfold CodeM.n; omega)])
  exact this
end Go.GF
