/- What a tree of mappings yields, in the order of the blocks. It speaks of no program. -/
import Derived.Test.YtednjhlkhecihaaGreatDoorVt
namespace Go.Vol
open Go Go.RowKit

/-- The mapped blocks of a range of n blocks that begins with first. -/
def itemsF (n first : Nat) (m : MapM) : List (Nat × Int) := (List.range n).filterMap fun i => (m i).map fun c => (first + i, c)
def items (m : MapM) : List (Nat × Int) := itemsF 4096 0 m
theorem itemsF_zero (first : Nat) (m : MapM) : itemsF 0 first m = [] := rfl
theorem itemsF_succ (n first : Nat) (m : MapM) : itemsF (n + 1) first m = itemsF n first m ++ ((m n).map fun c => (first + n, c)).toList := by
  unfold itemsF
  rw [List.range_succ, List.filterMap_append]
  cases h : m n <;> simp [h]
theorem itemsF_some {n first : Nat} {m : MapM} {c : Int} (h : m n = some c) : itemsF (n + 1) first m = itemsF n first m ++ [(first + n, c)] := by rw [itemsF_succ, h]; rfl
theorem itemsF_none {n first : Nat} {m : MapM} (h : m n = none) : itemsF (n + 1) first m = itemsF n first m := by rw [itemsF_succ, h]; simp
theorem itemsF_congr {m m' : MapM} (first : Nat) : ∀ n, (∀ i, i < n → m i = m' i) → itemsF n first m = itemsF n first m'
  | 0, _ => rfl
  | n + 1, h => by rw [itemsF_succ, itemsF_succ, itemsF_congr first n (fun i hi => h i (by omega)), h n (by omega)]
theorem itemsF_nil {m : MapM} (first : Nat) : ∀ n, (∀ i, i < n → m i = none) → itemsF n first m = []
  | 0, _ => rfl
  | n + 1, h => by rw [itemsF_none (h n (by omega)), itemsF_nil first n fun i hi => h i (by omega)]
theorem itemsF_add (a first : Nat) (m : MapM) : ∀ b, itemsF (a + b) first m = itemsF a first m ++ itemsF b (first + a) (fun i => m (a + i))
  | 0 => by simp [itemsF_zero]
  | b + 1 => by rw [← Nat.add_assoc, itemsF_succ, itemsF_add a first m b, itemsF_succ, List.append_assoc, Nat.add_assoc]
theorem itemsF_sub (m : MapM) (L k first : Nat) : itemsF ((k + 1) * 16 ^ (L + 1)) first m = itemsF (k * 16 ^ (L + 1)) first m ++ itemsF (16 ^ (L + 1)) (first + k * 16 ^ (L + 1)) (sub m L k) := by
  rw [Nat.add_mul, Nat.one_mul, itemsF_add]
  congr 1
  apply itemsF_congr
  intro i hi
  unfold sub
  rw [if_pos hi]
theorem itemsF_sub_none {m : MapM} {L k : Nat} (first : Nat) (h : anyB (16 ^ (L + 1)) (sub m L k) = false) : itemsF ((k + 1) * 16 ^ (L + 1)) first m = itemsF (k * 16 ^ (L + 1)) first m := by
  rw [itemsF_sub, itemsF_nil _ _ (anyB_false.1 h), List.append_nil]
theorem itemsF_prefix {m : MapM} {first a b : Nat} (h : a ≤ b) : itemsF a first m <+: itemsF b first m := by
  obtain ⟨d, rfl⟩ := Nat.exists_eq_add_of_le h
  exact ⟨_, (itemsF_add a first m d).symm⟩
theorem itemsF_lenle {m : MapM} {first a b : Nat} (h : a ≤ b) : (itemsF a first m).length ≤ (itemsF b first m).length := (itemsF_prefix h).length_le
theorem itemsF_len (m : MapM) (first : Nat) : ∀ n, (itemsF n first m).length = cntF n m
  | 0 => rfl
  | n + 1 => by rw [itemsF_succ, cntF_succ, List.length_append, itemsF_len m first n]; cases m n <;> simp
theorem items_len (m : MapM) : (items m).length = cnt m := itemsF_len m 0 4096
end Go.Vol
