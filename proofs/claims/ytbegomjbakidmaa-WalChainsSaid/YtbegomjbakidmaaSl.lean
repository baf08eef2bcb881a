/- A small separation logic over the blocks of the model's heap: assertions on sets of blocks, their product, and what a world must hold to satisfy one. It speaks of no program. -/
import Derived.WalkKit
namespace Go.Sl
open Go Go.RowKit

abbrev Hp := Nat → Option Obj

/-- An assertion: a set of finite heaps. -/
structure HProp where
  holds : Hp → Prop

theorem HProp.ext {P Q : HProp} (h : ∀ x, P.holds x ↔ Q.holds x) : P = Q := by
  cases P; cases Q; congr 1; funext x; exact propext (h x)

def disj (a b : Hp) : Prop := ∀ k, a k = none ∨ b k = none
def un (a b : Hp) : Hp := fun k => (a k).or (b k)

def star (P Q : HProp) : HProp := ⟨fun h => ∃ a b, P.holds a ∧ Q.holds b ∧ disj a b ∧ h = un a b⟩
instance : Mul HProp := ⟨star⟩
def emp : HProp := ⟨fun h => h = fun _ => none⟩
def pts (b : Nat) (o : Obj) : HProp := ⟨fun h => h = fun k => if k = b then some o else none⟩
def lift (p : Prop) : HProp := ⟨fun h => p ∧ h = fun _ => none⟩
def ex {α : Type} (P : α → HProp) : HProp := ⟨fun h => ∃ x, (P x).holds h⟩

theorem mul_holds {P Q : HProp} {h : Hp} : (P * Q).holds h ↔ ∃ a b, P.holds a ∧ Q.holds b ∧ disj a b ∧ h = un a b := Iff.rfl

theorem disj_symm {a b : Hp} (h : disj a b) : disj b a := fun k => (h k).symm
theorem un_comm {a b : Hp} (h : disj a b) : un a b = un b a := by
  funext k
  unfold un
  rcases h k with h | h <;> simp [h]
theorem un_assoc (a b c : Hp) : un (un a b) c = un a (un b c) := by
  funext k; simp [un, Option.or_assoc]

theorem star_comm (P Q : HProp) : P * Q = Q * P := by
  apply HProp.ext
  intro h
  constructor
  · rintro ⟨a, b, ha, hb, hd, rfl⟩; exact ⟨b, a, hb, ha, disj_symm hd, un_comm hd⟩
  · rintro ⟨a, b, ha, hb, hd, rfl⟩; exact ⟨b, a, hb, ha, disj_symm hd, un_comm hd⟩

theorem disj_un_left {a b c : Hp} (h : disj (un a b) c) : disj a c ∧ disj b c := by
  constructor
  · intro k
    rcases h k with h | h
    · left; unfold un at h; cases ha : a k <;> simp [ha] at h ⊢
    · exact .inr h
  · intro k
    rcases h k with h | h
    · left; unfold un at h; cases ha : a k <;> simp [ha] at h; exact h
    · exact .inr h
theorem disj_un {a b c : Hp} (h : disj a c) (h' : disj b c) : disj (un a b) c := by
  intro k
  rcases h k with h | h
  · rcases h' k with h' | h'
    · left; simp [un, h, h']
    · exact .inr h'
  · exact .inr h

theorem star_assoc (P Q R : HProp) : P * Q * R = P * (Q * R) := by
  apply HProp.ext
  intro h
  constructor
  · rintro ⟨_, c, ⟨a, b, ha, hb, hab, rfl⟩, hc, hd, rfl⟩
    obtain ⟨hac, hbc⟩ := disj_un_left hd
    exact ⟨a, un b c, ha, ⟨b, c, hb, hc, hbc, rfl⟩, disj_symm (disj_un (disj_symm hab) (disj_symm hac)), un_assoc a b c⟩
  · rintro ⟨a, _, ha, ⟨b, c, hb, hc, hbc, rfl⟩, hd, rfl⟩
    obtain ⟨hba, hca⟩ := disj_un_left (disj_symm hd)
    exact ⟨un a b, c, ⟨a, b, ha, hb, disj_symm hba, rfl⟩, hc, disj_un (disj_symm hca) hbc, (un_assoc a b c).symm⟩

instance : Std.Associative (α := HProp) (· * ·) := ⟨star_assoc⟩
instance : Std.Commutative (α := HProp) (· * ·) := ⟨star_comm⟩

theorem emp_star (P : HProp) : emp * P = P := by
  apply HProp.ext
  intro h
  constructor
  · rintro ⟨a, b, rfl, hb, _, rfl⟩
    have : un (fun _ => none) b = b := by funext k; simp [un]
    rwa [this]
  · intro hp
    exact ⟨_, h, rfl, hp, fun k => .inl rfl, by funext k; simp [un]⟩
theorem star_emp (P : HProp) : P * emp = P := by rw [star_comm, emp_star]

theorem lift_star_holds {p : Prop} {P : HProp} {h : Hp} : (lift p * P).holds h ↔ p ∧ P.holds h := by
  constructor
  · rintro ⟨a, b, ⟨hp, rfl⟩, hb, _, rfl⟩
    have : un (fun _ => none) b = b := by funext k; simp [un]
    rw [this]; exact ⟨hp, hb⟩
  · rintro ⟨hp, hP⟩
    exact ⟨_, h, ⟨hp, rfl⟩, hP, fun k => .inl rfl, by funext k; simp [un]⟩

theorem ex_star {α : Type} (P : α → HProp) (Q : HProp) : ex P * Q = ex fun x => P x * Q := by
  apply HProp.ext
  intro h
  constructor
  · rintro ⟨a, b, ⟨x, ha⟩, hb, hd, rfl⟩; exact ⟨x, a, b, ha, hb, hd, rfl⟩
  · rintro ⟨x, a, b, ha, hb, hd, rfl⟩; exact ⟨a, b, ⟨x, ha⟩, hb, hd, rfl⟩

/-! ### what a world satisfies: some part of its heap is as the assertion says; the rest is whatever it is -/

def Sat (w : World) (P : HProp) : Prop := ∃ h, P.holds h ∧ ∀ k o, h k = some o → w.heap[k]? = some o

section
variable {w w' : World} {P Q R F : HProp}

theorem Sat.perm (h : Sat w P) (e : P = Q) : Sat w Q := e ▸ h
theorem Sat.mono (h : Sat w P) (i : ∀ x, P.holds x → Q.holds x) : Sat w Q := let ⟨x, hx, hk⟩ := h; ⟨x, i x hx, hk⟩
theorem Sat.left (h : Sat w (P * Q)) : Sat w P := by
  obtain ⟨_, ⟨a, b, ha, hb, hd, rfl⟩, hk⟩ := h
  exact ⟨a, ha, fun k o hko => hk k o (by simp [un, hko])⟩
theorem Sat.right (h : Sat w (P * Q)) : Sat w Q := (h.perm (star_comm P Q)).left
theorem Sat.ex {α : Type} {P : α → HProp} : Sat w (ex P * F) ↔ ∃ x, Sat w (P x * F) := by
  rw [ex_star]
  constructor
  · rintro ⟨h, ⟨x, hx⟩, hk⟩; exact ⟨x, h, hx, hk⟩
  · rintro ⟨x, h, hx, hk⟩; exact ⟨h, ⟨x, hx⟩, hk⟩
theorem Sat.lift {p : Prop} : Sat w (lift p * F) ↔ p ∧ Sat w F := by
  constructor
  · rintro ⟨h, hh, hk⟩; rw [lift_star_holds] at hh; exact ⟨hh.1, h, hh.2, hk⟩
  · rintro ⟨hp, h, hh, hk⟩; exact ⟨h, lift_star_holds.2 ⟨hp, hh⟩, hk⟩
theorem Sat.wand (h : Sat w (P * F)) (i : ∀ x, P.holds x → Q.holds x) : Sat w (Q * F) := by
  refine h.mono ?_
  rintro x ⟨a, b, ha, hb, hd, rfl⟩
  exact ⟨a, b, i a ha, hb, hd, rfl⟩

theorem Sat.block {b : Nat} {o : Obj} (h : Sat w (pts b o * F)) : w.heap[b]? = some o := by
  obtain ⟨_, ⟨a, c, rfl, hb, hd, rfl⟩, hk⟩ := h
  exact hk b o (by simp [un])
theorem Sat.ne {b c : Nat} {o q : Obj} (h : Sat w (pts b o * (pts c q * F))) : b ≠ c := by
  obtain ⟨_, ⟨_, _, rfl, ⟨_, _, rfl, _, hd', rfl⟩, hd, rfl⟩, hk⟩ := h
  rintro rfl
  rcases hd b with h | h <;> simp [un] at h
theorem Sat.lt {b : Nat} {o : Obj} (h : Sat w (pts b o * F)) : b < w.heap.size := (Array.getElem?_eq_some_iff.1 h.block).1

/-- A world that keeps the blocks of the first keeps what it satisfies. -/
theorem Sat.keep (h : Sat w P) (hk : ∀ k, k < w.heap.size → w'.heap[k]? = w.heap[k]?) : Sat w' P := by
  obtain ⟨x, hx, hx'⟩ := h
  refine ⟨x, hx, fun k o hko => ?_⟩
  have := hx' k o hko
  rw [hk k (Array.getElem?_eq_some_iff.1 this).1]; exact this
theorem Sat.below (h : Sat w P) (hb : Below w.heap.size w w') : Sat w' P := h.keep hb.block
theorem Sat.drew (h : Sat w P) : Sat w.drew P := h
theorem Sat.allocKeep (h : Sat w P) (o : Obj) : Sat (w.alloc o) P := h.keep (fun k hk => Below.heap_alloc w o k hk)
theorem Sat.alloc (h : Sat w P) (o : Obj) : Sat (w.alloc o) (pts w.heap.size o * P) := by
  obtain ⟨x, hx, hk⟩ := h
  refine ⟨un (fun k => if k = w.heap.size then some o else none) x, ⟨_, x, rfl, hx, ?_, rfl⟩, ?_⟩
  · intro k
    by_cases hkk : k = w.heap.size
    · right
      cases hxk : x k with
      | none => rfl
      | some q => have := (Array.getElem?_eq_some_iff.1 (hk k q hxk)).1; omega
    · left; simp [hkk]
  · intro k q hkq
    unfold un at hkq
    by_cases hkk : k = w.heap.size
    · subst hkk; simp at hkq; subst hkq; exact heap_alloc_new w o
    · simp [hkk] at hkq
      have h2 := hk k q hkq
      rw [Below.heap_alloc w o k (Array.getElem?_eq_some_iff.1 h2).1]; exact h2
theorem Sat.growAt {w w' : World} {P : HProp} {o : Obj} {g : Nat} (h : Sat w P) (hk : ∀ k, k < w.heap.size → w'.heap[k]? = w.heap[k]?) (hg : w.heap.size ≤ g) (hb : w'.heap[g]? = some o) : Sat w' (pts g o * P) := by
  obtain ⟨x, hx, hk'⟩ := h
  refine ⟨un (fun k => if k = g then some o else none) x, ⟨_, x, rfl, hx, ?_, rfl⟩, ?_⟩
  · intro k
    by_cases hkk : k = g
    · right
      cases hxk : x k with
      | none => rfl
      | some q => have := (Array.getElem?_eq_some_iff.1 (hk' k q hxk)).1; omega
    · left; simp [hkk]
  · intro k q hkq
    unfold un at hkq
    by_cases hkk : k = g
    · subst hkk; simp at hkq; subst hkq; exact hb
    · simp [hkk] at hkq
      have h2 := hk' k q hkq
      rw [hk k (Array.getElem?_eq_some_iff.1 h2).1]; exact h2
theorem Sat.grow {w w' : World} {P : HProp} {o : Obj} (h : Sat w P) (hk : ∀ k, k < w.heap.size → w'.heap[k]? = w.heap[k]?) (hb : w'.heap[w.heap.size]? = some o) : Sat w' (pts w.heap.size o * P) := h.growAt hk (Nat.le_refl _) hb
/-- One block takes another content. -/
theorem Sat.put {b : Nat} {o o' : Obj} (h : Sat w (pts b o * F)) (h1 : w'.heap[b]? = some o') (h2 : ∀ k, k ≠ b → k < w.heap.size → w'.heap[k]? = w.heap[k]?) : Sat w' (pts b o' * F) := by
  obtain ⟨_, ⟨a, x, rfl, hx, hd, rfl⟩, hk⟩ := h
  refine ⟨_, ⟨_, x, rfl, hx, ?_, rfl⟩, ?_⟩
  · intro k
    by_cases hkb : k = b
    · right; subst hkb; rcases hd k with h | h
      · simp at h
      · exact h
    · left; simp [hkb]
  · intro k q hkq
    unfold un at hkq
    by_cases hkb : k = b
    · subst hkb; simp at hkq; subst hkq; exact h1
    · simp [hkb] at hkq
      have h3 := hk k q (by simp [un, hkb, hkq])
      rw [h2 k hkb (Array.getElem?_eq_some_iff.1 h3).1]; exact h3
theorem Sat.setCell {b i : Nat} {c : Array Value} {T : TypeId} {fr : Nat × Nat} (h : Sat w (pts b (.cells c T fr) * F)) (v : Value) :
    Sat (w.setCell ⟨b, i, none⟩ v) (pts b (.cells (c.setIfInBounds i v) T fr) * F) := by
  refine h.put ?_ (fun k hk _ => heap_setCell_other w ⟨b, i, none⟩ k v hk)
  have := h.block
  have hlt := h.lt
  simp only [World.setCell, Array.getElem?_modify, this]
  simp
theorem Sat.setRow {b : Nat} {c c' : Array Value} {T : TypeId} {fr : Nat × Nat} (h : Sat w (pts b (.cells c T fr) * F)) :
    Sat (w.setRow b c') (pts b (.cells c' T fr) * F) := by
  refine h.put (setRow_heap w b c c' T fr h.block) (fun k hk _ => setRow_other w b k c' hk)
theorem Sat.putObj {b : Nat} {o o' : Obj} (h : Sat w (pts b o * F)) :
    Sat { w with heap := w.heap.setIfInBounds b o' } (pts b o' * F) := by
  have hlt := h.lt
  refine h.put ?_ ?_
  · simp [hlt]
  · intro k hk hk'
    simp [Ne.symm hk]
end

/-- Everything that lies in a world's heap. -/
def old (w : World) : HProp := ⟨fun h => h = fun k => w.heap[k]?⟩
theorem Sat.old (w : World) : Sat w (old w) := ⟨_, rfl, fun _ _ h => h⟩
theorem Sat.of_old {w w' : World} {P : HProp} (h : Sat w' (P * Sl.old w)) : ∀ k, k < w.heap.size → w'.heap[k]? = w.heap[k]? := by
  obtain ⟨x, rfl, hk⟩ := h.right
  intro k hlt
  have : w.heap[k]? = some w.heap[k] := by simp [hlt]
  rw [this]; exact hk k _ this

/-- What every call leaves alone: the streams. -/
structure Same (w w' : World) : Prop where
  os : w'.os = w.os
  tape : w'.tape = w.tape
  output : w'.output = w.output
  size : w.heap.size ≤ w'.heap.size

section
variable {w w' w'' : World}
theorem Same.refl (w : World) : Same w w := ⟨rfl, rfl, rfl, Nat.le_refl _⟩
theorem Same.trans (h : Same w w') (k : Same w' w'') : Same w w'' := ⟨k.os.trans h.os, k.tape.trans h.tape, k.output.trans h.output, Nat.le_trans h.size k.size⟩
theorem Same.alloc (h : Same w w') (o : Obj) : Same w (w'.alloc o) := h.trans ⟨rfl, rfl, rfl, by simp⟩
theorem Same.drew (h : Same w w') : Same w w'.drew := h.trans ⟨rfl, rfl, rfl, Nat.le_refl _⟩
theorem Same.setCell (h : Same w w') (a : Addr) (v : Value) : Same w (w'.setCell a v) := h.trans ⟨rfl, rfl, rfl, by simp [World.setCell]⟩
theorem Same.setRow (h : Same w w') (g : Nat) (c : Array Value) : Same w (w'.setRow g c) := h.trans ⟨rfl, rfl, rfl, by simp⟩
theorem Same.putObj (h : Same w w') (g : Nat) (o : Obj) : Same w { w' with heap := w'.heap.setIfInBounds g o } := h.trans ⟨rfl, rfl, rfl, by simp⟩
theorem Same.below {B : Nat} (h : Same w w') (k : Below B w' w'') : Same w w'' := h.trans ⟨k.os, k.tape, k.output, k.size⟩
theorem Same.below_of (h : Same w w') {P : HProp} (k : Sat w' (P * old w)) : Below w.heap.size w w' := ⟨h.os, h.tape, h.output, h.size, k.of_old⟩
end

/-! ### blocks as the walk wants them: cell by cell -/
theorem cells_at {w : World} {b : Nat} {c : Array Value} {T : TypeId} {fr : Nat × Nat} (h : w.heap[b]? = some (.cells c T fr)) : ∀ o, w.cell? ⟨b, o, none⟩ = c[o]? := by
  intro o; simp [World.cell?, h]
theorem thawed_at {w : World} {b : Nat} {c : Array Value} {T : TypeId} (h : w.heap[b]? = some (.cells c T (0, 0))) : ∀ o, w.frozen? ⟨b, o, none⟩ = false := by
  intro o; simp [World.frozen?, h]

end Go.Sl
