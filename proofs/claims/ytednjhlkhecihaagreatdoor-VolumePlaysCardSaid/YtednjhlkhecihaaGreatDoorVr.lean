/- Rows of elements of k cells that lie one behind the other. It speaks of no program. -/
import Derived.Test.YtednjhlkhecihaaGreatDoorVt
import Derived.Test.YtednjhlkhecihaaGreatDoorAp
namespace Go.Vol
open Go Go.RowKit Go.Sl

/-- A slice of n elements whose cells read as a list. -/
def RowsAt (w : World) (v : Value) (n : Nat) (L : List Value) : Prop := ∃ ao cap, v = .slice ao n cap ∧ (n ≤ cap ∧ (ao = none → cap = 0)) ∧ cap ≤ maxLen ∧ (0 < n → ∃ b : Nat, ao = some ⟨b, 0, none⟩ ∧ b < w.heap.size ∧ ∀ j u, L[j]? = some u → w.cell? ⟨b, j, none⟩ = some u)
theorem RowsAt.keep {w w' : World} {v : Value} {n : Nat} {L : List Value} (hs : w.heap.size ≤ w'.heap.size) (hk : ∀ k, k < w.heap.size → w'.heap[k]? = w.heap[k]?) (h : RowsAt w v n L) : RowsAt w' v n L := by
  obtain ⟨ao, cap, h1, h2, h3, h4⟩ := h
  refine ⟨ao, cap, h1, h2, h3, fun hn => ?_⟩
  obtain ⟨b, h5, h6, h7⟩ := h4 hn
  exact ⟨b, h5, by omega, fun j u hu => by rw [World.cell?_of_block (w := w) (hk b h6)]; exact h7 j u hu⟩
theorem RowsAt.below {w w' : World} {v : Value} {n : Nat} {L : List Value} (h : RowsAt w v n L) (hb : Below w.heap.size w w') : RowsAt w' v n L := h.keep hb.size hb.block
theorem RowsAt.nil (w : World) : RowsAt w (.slice none 0 0) 0 [] := ⟨none, 0, rfl, ⟨Nat.le_refl _, fun _ => rfl⟩, by unfold maxLen; omega, fun h => absurd h (Nat.lt_irrefl _)⟩

section
variable {α : Type} {enc : α → List Value} {k : Nat}
theorem flat_len (hk : ∀ x, (enc x).length = k) : ∀ l : List α, (l.flatMap enc).length = l.length * k
  | [] => by simp
  | x :: r => by rw [List.flatMap_cons, List.length_append, hk, flat_len hk r, List.length_cons, Nat.add_mul, Nat.one_mul, Nat.add_comm]
theorem flat_at (hk : ∀ x, (enc x).length = k) : ∀ (l : List α) (j : Nat) (x : α), l[j]? = some x → ∀ (i : Nat) (u : Value), (enc x)[i]? = some u → (l.flatMap enc)[j * k + i]? = some u
  | [], _, _, h, _, _, _ => by simp at h
  | y :: r, 0, x, h, i, u, hu => by
    simp at h; subst h
    rw [List.flatMap_cons, Nat.zero_mul, Nat.zero_add, List.getElem?_append_left (List.getElem?_eq_some_iff.1 hu).1]; exact hu
  | y :: r, j + 1, x, h, i, u, hu => by
    rw [List.flatMap_cons, List.getElem?_append_right (by rw [hk, Nat.add_mul]; omega), hk, show (j + 1) * k + i - k = j * k + i by rw [Nat.add_mul]; omega]
    exact flat_at hk r j x (by simpa using h) i u hu
theorem flat_take (hk : ∀ x, (enc x).length = k) (l : List α) (i : Nat) : (l.flatMap enc).take (i * k) = (l.take i).flatMap enc := by
  induction l generalizing i with
  | nil => simp
  | cons x r ih =>
    cases i with
    | zero => simp
    | succ i => rw [List.flatMap_cons, List.take_succ_cons, List.flatMap_cons, Nat.add_mul, Nat.one_mul, Nat.add_comm, List.take_append, hk, List.take_of_length_le (by rw [hk]; omega), Nat.add_sub_cancel_left, ih]
theorem flat_drop (hk : ∀ x, (enc x).length = k) (l : List α) (i : Nat) : (l.flatMap enc).drop (i * k) = (l.drop i).flatMap enc := by
  induction l generalizing i with
  | nil => simp
  | cons x r ih =>
    cases i with
    | zero => simp
    | succ i => rw [List.flatMap_cons, List.drop_succ_cons, Nat.add_mul, Nat.one_mul, Nat.add_comm, List.drop_append, hk, List.drop_of_length_le (by rw [hk]; omega), Nat.add_sub_cancel_left, List.nil_append, ih]
theorem flat_insert (hk : ∀ x, (enc x).length = k) (l : List α) (i : Nat) (x : α) (hi : i ≤ l.length) : (l.insertIdx i x).flatMap enc = (l.flatMap enc).take (i * k) ++ enc x ++ (l.flatMap enc).drop (i * k) := by
  rw [flat_take hk, flat_drop hk]
  induction l generalizing i with
  | nil => obtain rfl : i = 0 := by simpa using hi
           simp
  | cons y r ih =>
    cases i with
    | zero => simp
    | succ i => rw [List.insertIdx_succ_cons, List.flatMap_cons, ih i (by simpa using hi), List.take_succ_cons, List.drop_succ_cons, List.flatMap_cons]; simp
theorem flat_erase (hk : ∀ x, (enc x).length = k) (l : List α) (i : Nat) : (l.eraseIdx i).flatMap enc = (l.flatMap enc).take (i * k) ++ (l.flatMap enc).drop ((i + 1) * k) := by
  rw [flat_take hk, flat_drop hk, List.eraseIdx_eq_take_drop_succ, List.flatMap_append]
theorem flat_set (hk : ∀ x, (enc x).length = k) (l : List α) (i : Nat) (x : α) (hi : i < l.length) : (l.set i x).flatMap enc = (l.flatMap enc).take (i * k) ++ enc x ++ (l.flatMap enc).drop ((i + 1) * k) := by
  rw [flat_take hk, flat_drop hk, List.set_eq_take_append_cons_drop, if_pos hi, List.flatMap_append, List.flatMap_cons, List.append_assoc]
end

/-- A row that a call made reads as a row. -/
theorem RowsAt.own {w : World} {T : TypeId} {k n : Nat} {v : Value} {L : List Value} {F : HProp} (h : Sat w (ownAt T k v n L * F)) (_hk : 0 < k) : RowsAt w v n L := by
  rcases ownAt_iff.1 h with ⟨rfl, rfl, rfl, _⟩ | ⟨g, cap, cur, ⟨rfl, h1, h2, h3, h4, h5⟩, hs⟩
  · exact RowsAt.nil w
  · refine ⟨_, cap, rfl, ⟨h1, by simp⟩, h2, fun hn => ⟨g, rfl, hs.lt, fun j u hu => ?_⟩⟩
    rw [cells_at hs.block, ← Array.getElem?_toList]
    rw [← h4, List.getElem?_take] at hu
    split at hu
    · exact hu
    · cases hu
theorem oneCell_flat {α : Type} {enc : α → List Value} {l : List α} (h : ∀ x ∈ l, ∀ u ∈ enc x, u.oneCell' = true) : ∀ u ∈ l.flatMap enc, u.oneCell' = true := by
  intro u hu
  obtain ⟨x, hx, hu⟩ := List.mem_flatMap.1 hu
  exact h x hx u hu

/-! ### the two kinds of elements -/
abbrev ElM := PartM × Value
def PtrV (v : Value) : Prop := ∃ q : Option Addr, v = .pointer q
def volE (x : ElM) : List Value := [.int .i64 x.1.id, .int .i64 x.1.tenant, x.2, .int .i64 (cnt x.1.m : Int)]
def snapE (x : ElM) : List Value := [.int .i64 x.1.id, .int .i64 x.1.tenant, x.2, .int .i64 (cnt x.1.m : Int), .int .i64 x.1.src]
theorem volE_len (x : ElM) : (volE x).length = 4 := rfl
theorem snapE_len (x : ElM) : (snapE x).length = 5 := rfl
def ElsAt (T : TypeId) (w : World) (l : List ElM) : Prop := ∀ x ∈ l, NodeAt T w 2 x.2 x.1.m
theorem ElsAt.one4 {T : TypeId} {w : World} {l : List ElM} (h : ElsAt T w l) : ∀ u ∈ l.flatMap volE, u.oneCell' = true := oneCell_flat fun x hx u hu => by
  obtain ⟨q, hq⟩ := NodeAt.ptr (h x hx)
  unfold volE at hu
  rw [hq] at hu
  simp only [List.mem_cons, List.not_mem_nil, or_false] at hu
  rcases hu with rfl | rfl | rfl | rfl <;> rfl
theorem ElsAt.one5 {T : TypeId} {w : World} {l : List ElM} (h : ElsAt T w l) : ∀ u ∈ l.flatMap snapE, u.oneCell' = true := oneCell_flat fun x hx u hu => by
  obtain ⟨q, hq⟩ := NodeAt.ptr (h x hx)
  unfold snapE at hu
  rw [hq] at hu
  simp only [List.mem_cons, List.not_mem_nil, or_false] at hu
  rcases hu with rfl | rfl | rfl | rfl | rfl <;> rfl
theorem ElsAt.below {T : TypeId} {w w' : World} {l : List ElM} (h : ElsAt T w l) (hb : Below w.heap.size w w') : ElsAt T w' l := fun x hx => NodeAt.below hb (h x hx)
structure SpAt (TN TSp : TypeId) (w : World) (p : Nat) (lv ls : List ElM) : Prop where
  sp : ∃ vv vs, w.heap[p]? = some (.cells #[vv, vs] TSp (0, 0)) ∧ RowsAt w vv lv.length (lv.flatMap volE) ∧ RowsAt w vs ls.length (ls.flatMap snapE)
  lv : ElsAt TN w lv
  ls : ElsAt TN w ls
theorem SpAt.below {TN TSp : TypeId} {w w' : World} {p : Nat} {lv ls : List ElM} (h : SpAt TN TSp w p lv ls) (hb : Below w.heap.size w w') : SpAt TN TSp w' p lv ls := by
  obtain ⟨vv, vs, h1, h2, h3⟩ := h.sp
  exact ⟨⟨vv, vs, by rw [hb.block p (Array.getElem?_eq_some_iff.1 h1).1]; exact h1, h2.below hb, h3.below hb⟩, h.lv.below hb, h.ls.below hb⟩
/-- A pointer to a space. -/
def SpaceAt (TN TSp : TypeId) (w : World) (p : Nat) (S : SpaceM) : Prop := ∃ lv ls, lv.map Prod.fst = S.vols ∧ ls.map Prod.fst = S.snaps ∧ SpAt TN TSp w p lv ls
theorem SpaceAt.below {TN TSp : TypeId} {w w' : World} {p : Nat} {S : SpaceM} (h : SpaceAt TN TSp w p S) (hb : Below w.heap.size w w') : SpaceAt TN TSp w' p S := by
  obtain ⟨lv, ls, h1, h2, h3⟩ := h
  exact ⟨lv, ls, h1, h2, h3.below hb⟩
def atE (l : List ElM) (id : Int) : Nat := l.findIdx fun x => x.1.id == id
theorem atE_map (l : List ElM) (id : Int) : atN (l.map Prod.fst) id = atE l id := by
  unfold atN atE
  rw [List.findIdx_map]; rfl
def atI (l : List ElM) (id : Int) : Int := if atE l id < l.length then (atE l id : Int) else -1
end Go.Vol
