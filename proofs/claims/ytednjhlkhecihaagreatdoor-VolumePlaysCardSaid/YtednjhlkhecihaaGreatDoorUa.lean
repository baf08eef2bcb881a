/- solventref27: how a specified space lies in memory; plain laws of its lists. -/
import Derived.Test.YtednjhlkhecihaaGreatDoorWq
import Derived.Test.YtednjhlkhecihaaGreatDoorWa
namespace Go.Proofs.YtednjhlkhecihaaGreatDoor
open Go.RowKit Go.Vol Go.Sl

theorem _root_.Go.Sl.Sat.drewN {w : World} {P : HProp} (h : Sat w P) (n : Nat) : Sat (w.drewN n) P := h
theorem _root_.Go.Sl.Same.drewN {w w' : World} (h : Same w w') (n : Nat) : Same w (w'.drewN n) := h.trans ⟨rfl, rfl, rfl, Nat.le_refl _⟩
abbrev TP : TypeId := 98
abbrev TPs : TypeId := 26
abbrev TRS : TypeId := 28
def rpE (x : ElM) : List Value := [.int .i64 x.1.id, .int .i64 x.1.tenant, .int .i64 x.1.src, x.2]
theorem rpE_len (x : ElM) : (rpE x).length = 4 := rfl
/-- A slice of n elements whose cells read as a list; its block is one of some blocks. -/
def RowK (ok : Nat → Prop) (w : World) (v : Value) (n : Nat) (L : List Value) : Prop := ∃ ao cap, v = .slice ao n cap ∧ (n ≤ cap ∧ (ao = none → cap = 0)) ∧ cap ≤ maxLen ∧ (0 < n → ∃ b : Nat, ao = some ⟨b, 0, none⟩ ∧ ok b ∧ b < w.heap.size ∧ ∀ j u, L[j]? = some u → w.cell? ⟨b, j, none⟩ = some u)
theorem RowK.rows {ok : Nat → Prop} {w : World} {v : Value} {n : Nat} {L : List Value} (h : RowK ok w v n L) : RowsAt w v n L := by
  obtain ⟨ao, cap, h1, h2, h3, h4⟩ := h
  exact ⟨ao, cap, h1, h2, h3, fun hn => by obtain ⟨b, h5, _, h6, h7⟩ := h4 hn; exact ⟨b, h5, h6, h7⟩⟩
theorem RowK.weaken {ok ok' : Nat → Prop} {w : World} {v : Value} {n : Nat} {L : List Value} (h : RowK ok w v n L) (hk : ∀ b, ok b → b < w.heap.size → ok' b) : RowK ok' w v n L := by
  obtain ⟨ao, cap, h1, h2, h3, h4⟩ := h
  exact ⟨ao, cap, h1, h2, h3, fun hn => by obtain ⟨b, h5, h0, h6, h7⟩ := h4 hn; exact ⟨b, h5, hk b h0 h6, h6, h7⟩⟩
theorem RowK.keep {ok : Nat → Prop} {w w' : World} {v : Value} {n : Nat} {L : List Value} (h : RowK ok w v n L) (hs : w.heap.size ≤ w'.heap.size) (hk : ∀ b, ok b → b < w.heap.size → w'.heap[b]? = w.heap[b]?) : RowK ok w' v n L := by
  obtain ⟨ao, cap, h1, h2, h3, h4⟩ := h
  refine ⟨ao, cap, h1, h2, h3, fun hn => ?_⟩
  obtain ⟨b, h5, h0, h6, h7⟩ := h4 hn
  exact ⟨b, h5, h0, by omega, fun j u hu => by rw [World.cell?_of_block (w := w) (hk b h0 h6)]; exact h7 j u hu⟩
theorem RowK.nil (ok : Nat → Prop) (w : World) : RowK ok w (.slice none 0 0) 0 [] := ⟨none, 0, rfl, ⟨Nat.le_refl _, fun _ => rfl⟩, by unfold maxLen; omega, fun h => absurd h (Nat.lt_irrefl _)⟩
theorem RowsAt.k {w : World} {v : Value} {n : Nat} {L : List Value} (h : RowsAt w v n L) : RowK (fun _ => True) w v n L := by
  obtain ⟨ao, cap, h1, h2, h3, h4⟩ := h
  exact ⟨ao, cap, h1, h2, h3, fun hn => by obtain ⟨b, h5, h6, h7⟩ := h4 hn; exact ⟨b, h5, trivial, h6, h7⟩⟩
theorem old_ge {w W : World} {g : Nat} {o : Obj} {R : HProp} (h : Sat W (pts g o * (R * old w))) : w.heap.size ≤ g := by
  obtain ⟨_, ⟨a, x, rfl, ⟨r, s, _, rfl, _, rfl⟩, hd, rfl⟩, _⟩ := h
  rcases Nat.lt_or_ge g w.heap.size with hlt | hge
  · exfalso
    rcases hd g with h | h
    · simp at h
    · have e : w.heap[g]? = some w.heap[g] := Array.getElem?_eq_getElem hlt
      simp only [un, e] at h
      cases hr : r g with
      | none => rw [hr] at h; simp at h
      | some q => rw [hr] at h; simp at h
  · exact hge
/-- A row that a call made. -/
theorem RowK.own {w W : World} {T : TypeId} {k n : Nat} {v : Value} {L : List Value} {R : HProp} (h : Sat W (ownAt T k v n L * (R * old w))) (_hk : 0 < k) : RowK (fun b => w.heap.size ≤ b) W v n L := by
  rcases ownAt_iff.1 h with ⟨rfl, rfl, rfl, _⟩ | ⟨g, cap, cur, ⟨rfl, h1, h2, h3, h4, h5⟩, hs⟩
  · exact RowK.nil _ W
  · refine ⟨_, cap, rfl, ⟨h1, by simp⟩, h2, fun hn => ⟨g, rfl, old_ge hs, hs.lt, fun j u hu => ?_⟩⟩
    rw [cells_at hs.block, ← Array.getElem?_toList]
    rw [← h4, List.getElem?_take] at hu
    split at hu
    · exact hu
    · cases hu
def MapRow (ok : Nat → Prop) (w : World) (x : ElM) : Prop := RowK ok w x.2 (items x.1.m).length ((items x.1.m).flatMap refE)
def RefL (ok : Nat → Prop) (w : World) (v : Value) (L : List PartM) : Prop := ∃ l : List ElM, l.map Prod.fst = L ∧ RowK ok w v l.length (l.flatMap rpE) ∧ ∀ x ∈ l, MapRow ok w x
/-- A specified space. -/
structure RefAt (ok : Nat → Prop) (w : World) (vv vs : Value) (S : SpaceM) : Prop where
  v : RefL ok w vv S.vols
  s : RefL ok w vs S.snaps
/-- The blocks of a world, or newer ones. -/
def newer (ok : Nat → Prop) (w : World) (b : Nat) : Prop := ok b ∨ w.heap.size ≤ b
theorem RefL.keep {ok : Nat → Prop} {w w' : World} {v : Value} {L : List PartM} (h : RefL ok w v L) (hs : w.heap.size ≤ w'.heap.size) (hk : ∀ b, ok b → b < w.heap.size → w'.heap[b]? = w.heap[b]?) : RefL ok w' v L := by
  obtain ⟨l, h1, h2, h3⟩ := h
  exact ⟨l, h1, h2.keep hs hk, fun x hx => (h3 x hx).keep hs hk⟩
theorem RefL.weaken {ok ok' : Nat → Prop} {w : World} {v : Value} {L : List PartM} (h : RefL ok w v L) (hk : ∀ b, ok b → b < w.heap.size → ok' b) : RefL ok' w v L := by
  obtain ⟨l, h1, h2, h3⟩ := h
  exact ⟨l, h1, h2.weaken hk, fun x hx => (h3 x hx).weaken hk⟩
theorem RefL.below {ok : Nat → Prop} {w w' : World} {v : Value} {L : List PartM} (h : RefL ok w v L) (hb : Below w.heap.size w w') : RefL ok w' v L := h.keep hb.size fun b _ hl => hb.block b hl
theorem RowK.below {ok : Nat → Prop} {w w' : World} {v : Value} {n : Nat} {L : List Value} (h : RowK ok w v n L) (hb : Below w.heap.size w w') : RowK ok w' v n L := h.keep hb.size fun b _ hl => hb.block b hl
theorem RefAt.below {ok : Nat → Prop} {w w' : World} {vv vs : Value} {S : SpaceM} (h : RefAt ok w vv vs S) (hb : Below w.heap.size w w') : RefAt ok w' vv vs S := ⟨h.v.below hb, h.s.below hb⟩
theorem RefAt.weaken {ok ok' : Nat → Prop} {w : World} {vv vs : Value} {S : SpaceM} (h : RefAt ok w vv vs S) (hk : ∀ b, ok b → b < w.heap.size → ok' b) : RefAt ok' w vv vs S := ⟨h.v.weaken hk, h.s.weaken hk⟩
theorem RefAt.keep {ok : Nat → Prop} {w w' : World} {vv vs : Value} {S : SpaceM} (h : RefAt ok w vv vs S) (hs : w.heap.size ≤ w'.heap.size) (hk : ∀ b, ok b → b < w.heap.size → w'.heap[b]? = w.heap[b]?) : RefAt ok w' vv vs S := ⟨h.v.keep hs hk, h.s.keep hs hk⟩
theorem RefL.nil (ok : Nat → Prop) (w : World) : RefL ok w (.slice none 0 0) [] := ⟨[], rfl, RowK.nil ok w, fun x hx => absurd hx (by simp)⟩
theorem RefL.slice {ok : Nat → Prop} {w : World} {v : Value} {L : List PartM} (h : RefL ok w v L) : ∃ a c, v = .slice a L.length c ∧ L.length ≤ c ∧ c ≤ maxLen := by
  obtain ⟨l, rfl, ⟨a, c, rfl, h2, h3, _⟩, _⟩ := h
  rw [List.length_map]
  exact ⟨a, c, rfl, h2.1, h3⟩
theorem MapRow.slice {ok : Nat → Prop} {w : World} {x : ElM} (h : MapRow ok w x) : ∃ a c, x.2 = .slice a (items x.1.m).length c := by
  obtain ⟨a, c, e, _⟩ := h
  exact ⟨a, c, e⟩
theorem rp_one {ok : Nat → Prop} {w : World} {l : List ElM} (h : ∀ x ∈ l, MapRow ok w x) : ∀ u ∈ l.flatMap rpE, u.oneCell' = true := oneCell_flat fun x hx u hu => by
  obtain ⟨a, c, e⟩ := (h x hx).slice
  unfold rpE at hu
  rw [e] at hu
  simp only [List.mem_cons, List.not_mem_nil, or_false] at hu
  rcases hu with rfl | rfl | rfl | rfl <;> rfl
theorem rp_cells {w : World} {ao : Option Addr} {n cap : Nat} {l : List ElM} {i : Nat} {x : ElM} (h : RowsAt w (.slice ao n cap) l.length (l.flatMap rpE)) (hx : l[i]? = some x) : ∃ b : Nat, ao = some ⟨b, 0, none⟩ ∧ b < w.heap.size ∧
    w.cell? ⟨b, i * 4, none⟩ = some (.int .i64 x.1.id) ∧ w.cell? ⟨b, i * 4 + 1, none⟩ = some (.int .i64 x.1.tenant) ∧ w.cell? ⟨b, i * 4 + 2, none⟩ = some (.int .i64 x.1.src) ∧ w.cell? ⟨b, i * 4 + 3, none⟩ = some x.2 := by
  obtain ⟨ao', cap', e, _, _, h4⟩ := h
  obtain ⟨b, hb, hlt, hc⟩ := h4 (by have := (List.getElem?_eq_some_iff.1 hx).1; omega)
  simp only [Value.slice.injEq] at e
  refine ⟨b, e.1.trans hb, hlt, ?_, ?_, ?_, ?_⟩
  · have := hc _ _ (flat_at rpE_len l i x hx 0 _ rfl); rwa [Nat.add_zero] at this
  · exact hc _ _ (flat_at rpE_len l i x hx 1 _ rfl)
  · exact hc _ _ (flat_at rpE_len l i x hx 2 _ rfl)
  · exact hc _ _ (flat_at rpE_len l i x hx 3 _ rfl)
theorem info_TP : (Tryz.prog.info? TP).map (fun i => (i.zero, i.size, i.bytes)) = some (some (.agg #[.int .i64 0, .int .i64 0, .int .i64 0, .slice none 0 0]), 4, 48) := by kernel_rfl
theorem infoMap2 : (Tryz.prog.info? 100).map (fun i => (i.zero, i.size, i.bytes)) = some (some (.agg #[.int .i64 0, .int .i64 0]), 2, 16) := by kernel_rfl

/-! ### plain -/
def atP (L : List PartM) (id : Int) : Int := if atN L id < L.length then (atN L id : Int) else -1
theorem atN_step {L : List PartM} {k : Nat} {x : PartM} {id : Int} (hx : L[k]? = some x) (hk : k ≤ atN L id) : (x.id = id → atN L id = k) ∧ (x.id ≠ id → k + 1 ≤ atN L id) := by
  obtain ⟨hlt, he⟩ := List.getElem?_eq_some_iff.1 hx
  refine ⟨fun e => ?_, fun e => ?_⟩
  · rcases Nat.lt_or_ge k (atN L id) with h | h
    · have := List.not_of_lt_findIdx h
      rw [he] at this
      simp [e] at this
    · omega
  · rcases Nat.lt_or_ge k (atN L id) with h | h
    · exact h
    · have e2 : atN L id = k := by omega
      have := atN_some (l := L) (id := id) (p := x) (by rw [e2]; exact hx)
      exact absurd this e
theorem atP_cases (L : List PartM) (id : Int) : (L[atN L id]? = none ∧ atP L id = -1) ∨ ∃ p, L[atN L id]? = some p ∧ atP L id = (atN L id : Int) ∧ atN L id < L.length ∧ p.id = id := by
  unfold atP
  rcases Nat.lt_or_ge (atN L id) L.length with h | h
  · rw [if_pos h]
    exact .inr ⟨_, List.getElem?_eq_getElem h, rfl, h, atN_some (List.getElem?_eq_getElem h)⟩
  · rw [if_neg (by omega)]
    exact .inl ⟨List.getElem?_eq_none h, rfl⟩
theorem freeF_low {l : List PartM} : ∀ {k0 : Nat}, ∀ k, k0 ≤ k → k < freeF l k0 → ∃ p ∈ l, p.id = (k : Int) := by
  induction l with
  | nil => intro k0 k h1 h2; unfold freeF at h2; omega
  | cons a r ih =>
    intro k0 k h1 h2
    unfold freeF at h2
    split at h2
    · rename_i he
      by_cases hk : k = k0
      · exact ⟨a, by simp, by rw [hk]; exact he⟩
      · obtain ⟨p, hp, hid⟩ := ih k (by omega) h2
        exact ⟨p, by simp [hp], hid⟩
    · omega
/-- Whether the search of a free id goes on. -/
theorem free_test {L : List PartM} (h : Incr L 0) {k : Nat} (hk : k ≤ free L) : decide (0 ≤ atP L (k : Int)) = decide (k < free L) := by
  rcases atP_cases L (k : Int) with ⟨h1, h2⟩ | ⟨p, h1, h2, h3, h4⟩
  · rw [h2]
    have : ¬ k < free L := fun hlt => by
      obtain ⟨p, hp, hid⟩ := freeF_low k (Nat.zero_le _) hlt
      have hn : atN L (k : Int) < L.length := List.findIdx_lt_length_of_exists ⟨p, hp, by simpa using hid⟩
      rw [List.getElem?_eq_getElem hn] at h1; cases h1
    rw [decide_eq_false this]; rfl
  · rw [h2]
    have : k < free L := by
      rcases Nat.lt_or_ge k (free L) with h' | h'
      · exact h'
      · have e : k = free L := by omega
        exact absurd (by rw [h4, e]) (free_new h p (List.mem_of_getElem? h1))
    rw [decide_eq_true this]; exact decide_eq_true (by omega)
/-- Where a part is put. -/
def posN (L : List PartM) (id : Int) : Nat := L.findIdx fun x => decide (id < x.id)
theorem posN_le (L : List PartM) (id : Int) : posN L id ≤ L.length := List.findIdx_le_length
theorem posN_step {L : List PartM} {k : Nat} {x : PartM} {id : Int} (hx : L[k]? = some x) : (k < posN L id → ¬ id < x.id) ∧ (k = posN L id → id < x.id) := by
  obtain ⟨hlt, he⟩ := List.getElem?_eq_some_iff.1 hx
  refine ⟨fun h => ?_, fun h => ?_⟩
  · have := List.not_of_lt_findIdx h
    rw [he] at this
    simpa using this
  · have hw : L.findIdx (fun x => decide (id < x.id)) < L.length := by unfold posN at h; omega
    have := List.findIdx_getElem (w := hw)
    have e2 : L[L.findIdx fun x => decide (id < x.id)] = x := by
      have : L[L.findIdx fun x => decide (id < x.id)]? = some x := by unfold posN at h; rw [← h]; exact hx
      exact (List.getElem?_eq_some_iff.1 this).2
    rw [e2] at this
    simpa using this
theorem freeF_pos {l : List PartM} : ∀ {k : Nat}, Incr l k → freeF l k = k + l.findIdx fun x => decide ((freeF l k : Int) < x.id) := by
  induction l with
  | nil => intro k _; rfl
  | cons a r ih =>
    intro k h
    unfold freeF
    by_cases hk : a.id = (k : Int)
    · rw [if_pos hk]
      have hi := ih (k := k + 1) (by have := h.2; rw [hk] at this; exact this)
      have hge : k + 1 ≤ freeF r (k + 1) := by omega
      rw [List.findIdx_cons, show decide (((freeF r (k + 1) : Nat) : Int) < a.id) = false from decide_eq_false (by rw [hk]; omega)]
      simp only [cond_false]
      omega
    · rw [if_neg hk, List.findIdx_cons, show decide ((k : Int) < a.id) = true from decide_eq_true (by have := h.1; omega)]
      rfl
theorem posN_free {L : List PartM} (h : Incr L 0) : posN L (free L : Int) = free L := by
  have := freeF_pos (k := 0) h
  unfold posN free
  omega
/-- What put has written behind k rounds. -/
def putK (l : List ElM) (j : Nat) (p : ElM) (k : Nat) : List ElM := if j < k then (l.take k).insertIdx j p else l.take k
theorem insertIdx_snoc {α : Type} (l : List α) (j : Nat) (p x : α) (h : j ≤ l.length) : (l ++ [x]).insertIdx j p = l.insertIdx j p ++ [x] := by
  induction l generalizing j with
  | nil => obtain rfl : j = 0 := by simpa using h
           rfl
  | cons y r ih =>
    cases j with
    | zero => rfl
    | succ j => simp only [List.cons_append, List.insertIdx_succ_cons, ih j (by simpa using h)]
theorem insertIdx_len {α : Type} (l : List α) (p : α) : l.insertIdx l.length p = l ++ [p] := by
  induction l with
  | nil => rfl
  | cons y r ih => simp [List.insertIdx_succ_cons, ih]
theorem putK_lt {l : List ElM} {j k : Nat} {p x : ElM} (hx : l[k]? = some x) (h : k < j) : putK l j p (k + 1) = putK l j p k ++ [x] := by
  unfold putK
  rw [if_neg (by omega), if_neg (by omega), List.take_add_one, hx]; rfl
theorem putK_eq {l : List ElM} {k : Nat} {p x : ElM} (hx : l[k]? = some x) : putK l k p (k + 1) = putK l k p k ++ [p] ++ [x] := by
  have hlt := (List.getElem?_eq_some_iff.1 hx).1
  unfold putK
  rw [if_pos (by omega), if_neg (by omega), List.take_add_one, hx]
  show (l.take k ++ [x]).insertIdx k p = _
  rw [insertIdx_snoc _ _ _ _ (by rw [List.length_take]; omega)]
  have e := insertIdx_len (l.take k) p
  rw [show (l.take k).length = k by rw [List.length_take]; omega] at e
  rw [e]
theorem putK_gt {l : List ElM} {j k : Nat} {p x : ElM} (hx : l[k]? = some x) (h : j < k) : putK l j p (k + 1) = putK l j p k ++ [x] := by
  have hlt := (List.getElem?_eq_some_iff.1 hx).1
  unfold putK
  rw [if_pos (by omega), if_pos h, List.take_add_one, hx]
  exact insertIdx_snoc _ _ _ _ (by rw [List.length_take]; omega)
theorem putK_zero (l : List ElM) (j : Nat) (p : ElM) : putK l j p 0 = [] := by unfold putK; simp
theorem putK_end {l : List ElM} {j : Nat} {p : ElM} (h : j < l.length) : putK l j p l.length = l.insertIdx j p := by unfold putK; rw [if_pos h, List.take_length]
theorem putK_all {l : List ElM} {p : ElM} : putK l l.length p l.length ++ [p] = l.insertIdx l.length p := by unfold putK; rw [if_neg (by omega), List.take_length, insertIdx_len]
theorem putK_len (l : List ElM) (j k : Nat) (p : ElM) : (putK l j p k).length ≤ l.length + 1 := by
  unfold putK
  split
  · rw [List.length_insertIdx, List.length_take]; split <;> omega
  · rw [List.length_take]; omega
theorem sat_block {w : World} {b : Nat} {o : Obj} (h : w.heap[b]? = some o) : Sat w (pts b o * emp) := by
  rw [star_emp]
  refine ⟨_, rfl, fun k o2 hk => ?_⟩
  by_cases hkb : k = b
  · subst hkb
    simp only [if_true, Option.some.injEq] at hk
    subst hk; exact h
  · rw [if_neg hkb] at hk; cases hk
end Go.Proofs.YtednjhlkhecihaaGreatDoor
