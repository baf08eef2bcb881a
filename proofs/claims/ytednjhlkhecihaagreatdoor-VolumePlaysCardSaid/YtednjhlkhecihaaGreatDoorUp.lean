/- Plain laws of solventref27: lists of mappings, and the index of a new part. It speaks of no program. -/
import Derived.Test.YtednjhlkhecihaaGreatDoorWq
import Derived.Test.YtednjhlkhecihaaGreatDoorUa
namespace Go.Proofs.YtednjhlkhecihaaGreatDoor
open Go.RowKit Go.Vol Go.Sl

theorem itemsF_mem {n first : Nat} {m : MapM} {x : Nat × Int} (h : x ∈ itemsF n first m) : first ≤ x.1 ∧ x.1 < first + n := by
  unfold itemsF at h
  obtain ⟨i, hi, h2⟩ := List.mem_filterMap.1 h
  have := List.mem_range.1 hi
  cases hm : m i with
  | none => rw [hm] at h2; cases h2
  | some c => rw [hm] at h2; cases h2; simp only; omega
/-- The mappings before a block, at it, and behind it. -/
theorem items_split (m : MapM) {b : Nat} (hb : b < 4096) : items m = itemsF b 0 m ++ ((m b).map fun c => (b, c)).toList ++ itemsF (4095 - b) (b + 1) (fun i => m (b + 1 + i)) := by
  rw [show items m = itemsF (b + 1 + (4095 - b)) 0 m from by unfold items; congr 1; omega, itemsF_add, Nat.zero_add, itemsF_succ, Nat.zero_add]
theorem items_upd {m : MapM} {b : Nat} {x : Option Int} (hb : b < 4096) : items (upd m b x) = itemsF b 0 m ++ (x.map fun c => (b, c)).toList ++ itemsF (4095 - b) (b + 1) (fun i => m (b + 1 + i)) := by
  rw [items_split _ hb]
  congr 1
  · congr 1
    · exact itemsF_congr 0 b fun i hi => by unfold upd; rw [if_neg (by omega)]
    · unfold upd; rw [if_pos rfl]
  · exact itemsF_congr (b + 1) _ fun i hi => by unfold upd; rw [if_neg (by omega)]
/-- Unmap's list. -/
theorem filter_upd {m : MapM} {b : Nat} (hb : b < 4096) : (items m).filter (fun x => x.1 != b) = items (upd m b none) := by
  rw [items_upd hb, items_split m hb, List.filter_append, List.filter_append]
  have h1 : (itemsF b 0 m).filter (fun x => x.1 != b) = itemsF b 0 m := List.filter_eq_self.2 fun x hx => by have := itemsF_mem hx; simp; omega
  have h2 : (itemsF (4095 - b) (b + 1) fun i => m (b + 1 + i)).filter (fun x => x.1 != b) = itemsF (4095 - b) (b + 1) fun i => m (b + 1 + i) := List.filter_eq_self.2 fun x hx => by have := itemsF_mem hx; simp; omega
  rw [h1, h2]
  congr 1
  congr 1
  cases m b <;> simp
/-- One round of Map's loop. -/
def mapR (b : Nat) (c : Int) (s : Bool × List (Nat × Int)) (x : Nat × Int) : Bool × List (Nat × Int) :=
  let t := if s.1 = false ∧ b ≤ x.1 then (true, s.2 ++ [(b, c)]) else s
  if x.1 = b then t else (t.1, t.2 ++ [x])
def mapS (b : Nat) (c : Int) (l : List (Nat × Int)) : Bool × List (Nat × Int) := l.foldl (mapR b c) (false, [])
def mapE (b : Nat) (c : Int) (s : Bool × List (Nat × Int)) : List (Nat × Int) := if s.1 = true then s.2 else s.2 ++ [(b, c)]
theorem fold_lt {b : Nat} {c : Int} : ∀ (l : List (Nat × Int)) (o : List (Nat × Int)), (∀ x ∈ l, x.1 < b) → l.foldl (mapR b c) (false, o) = (false, o ++ l)
  | [], o, _ => by simp
  | x :: r, o, h => by
    have h1 := h x (by simp)
    rw [List.foldl_cons]
    have e : mapR b c (false, o) x = (false, o ++ [x]) := by
      have h2 : ¬ b ≤ x.1 := by omega
      have h3 : ¬ x.1 = b := by omega
      simp [mapR, h2, h3]
    rw [e, fold_lt r _ fun y hy => h y (by simp [hy])]
    simp
theorem fold_gt {b : Nat} {c : Int} : ∀ (l : List (Nat × Int)) (o : List (Nat × Int)), (∀ x ∈ l, b < x.1) → l.foldl (mapR b c) (true, o) = (true, o ++ l)
  | [], o, _ => by simp
  | x :: r, o, h => by
    have h1 := h x (by simp)
    rw [List.foldl_cons]
    have e : mapR b c (true, o) x = (true, o ++ [x]) := by
      have h3 : ¬ x.1 = b := by omega
      simp [mapR, h3]
    rw [e, fold_gt r _ fun y hy => h y (by simp [hy])]
    simp
theorem fold_ins {b : Nat} {c : Int} (l : List (Nat × Int)) (o : List (Nat × Int)) (h : ∀ x ∈ l, b < x.1) : mapE b c (l.foldl (mapR b c) (false, o)) = o ++ [(b, c)] ++ l := by
  cases l with
  | nil => simp [mapE]
  | cons x r =>
    have h1 := h x (by simp)
    rw [List.foldl_cons]
    have e : mapR b c (false, o) x = (true, o ++ [(b, c)] ++ [x]) := by
      have h2 : b ≤ x.1 := by omega
      have h3 : ¬ x.1 = b := by omega
      simp [mapR, h2, h3]
    rw [e, fold_gt r _ fun y hy => h y (by simp [hy])]
    simp [mapE]
theorem map_items {m : MapM} {b : Nat} {c : Int} (hb : b < 4096) : mapE b c (mapS b c (items m)) = items (upd m b (some c)) := by
  rw [items_upd hb, items_split m hb]
  unfold mapS
  rw [List.foldl_append, List.foldl_append, fold_lt _ _ fun x hx => by have := itemsF_mem hx; omega, List.nil_append]
  have hg : ∀ x ∈ itemsF (4095 - b) (b + 1) (fun i => m (b + 1 + i)), b < x.1 := fun x hx => by have := itemsF_mem hx; omega
  cases hm : m b with
  | none =>
    simp only [Option.map_none, Option.toList_none, List.foldl_nil, Option.map_some, Option.toList_some]
    exact fold_ins _ _ hg
  | some c0 =>
    simp only [Option.map_some, Option.toList_some, List.foldl_cons, List.foldl_nil]
    have e : mapR b c (false, itemsF b 0 m) (b, c0) = (true, itemsF b 0 m ++ [(b, c)]) := by
      simp [mapR]
    rw [e, fold_gt _ _ hg]
    simp [mapE]
theorem mapS_take {b : Nat} {c : Int} {l : List (Nat × Int)} {k : Nat} {x : Nat × Int} (h : l[k]? = some x) : mapS b c (l.take (k + 1)) = mapR b c (mapS b c (l.take k)) x := by
  unfold mapS
  rw [List.take_add_one, h, List.foldl_append]; rfl
theorem mapS_len (b : Nat) (c : Int) : ∀ (l : List (Nat × Int)) (s : Bool × List (Nat × Int)), (l.foldl (mapR b c) s).2.length ≤ s.2.length + 2 * l.length
  | [], s => by simp
  | x :: r, s => by
    have h := mapS_len b c r (mapR b c s x)
    have e : (mapR b c s x).2.length ≤ s.2.length + 2 := by
      unfold mapR
      simp only
      split <;> split <;> simp
    rw [List.foldl_cons, List.length_cons]
    omega
theorem filter_take {l : List (Nat × Int)} {k b : Nat} {x : Nat × Int} (h : l[k]? = some x) : (l.take (k + 1)).filter (fun y => y.1 != b) = (l.take k).filter (fun y => y.1 != b) ++ if x.1 = b then [] else [x] := by
  rw [List.take_add_one, h, List.filter_append]
  by_cases hx : x.1 = b <;> simp [hx]
/-! ### the place of a new part -/
theorem atN_new {L : List PartM} {q : PartM} (h : ∀ p ∈ L, p.id ≠ q.id) : ∀ {j : Nat}, j ≤ L.length → atN (L.insertIdx j q) q.id = j := by
  unfold atN
  induction L with
  | nil => intro j hj; obtain rfl : j = 0 := by simpa using hj
           simp [List.findIdx_cons]
  | cons a r ih =>
    intro j hj
    cases j with
    | zero => simp [List.findIdx_cons]
    | succ j =>
      rw [List.insertIdx_succ_cons, List.findIdx_cons, show (a.id == q.id) = false from by simpa using h a (by simp)]
      simp only [cond_false]
      rw [ih (fun p hp => h p (by simp [hp])) (by simpa using hj)]
theorem insert_set {α : Type} (q q' : α) : ∀ (L : List α) (j : Nat), j ≤ L.length → (L.insertIdx j q).set j q' = L.insertIdx j q'
  | [], j, hj => by obtain rfl : j = 0 := by simpa using hj
                    simp
  | a :: r, 0, _ => by simp
  | a :: r, j + 1, hj => by rw [List.insertIdx_succ_cons, List.insertIdx_succ_cons, List.set_cons_succ, insert_set q q' r j (by simpa using hj)]
end Go.Proofs.YtednjhlkhecihaaGreatDoor
