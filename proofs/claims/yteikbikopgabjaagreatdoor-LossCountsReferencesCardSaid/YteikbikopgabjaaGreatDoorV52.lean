import Derived.Test.YteikbikopgabjaaGreatDoorV49
/- Part 52 of a proof; the last part says what is proved. -/
namespace Go.Proofs.YteikbikopgabjaaGreatDoor
open Go.RowKit Go.Sha Go.Sl Go.GF Go.Vol Go.Loss
def lostAt (l : List ItM) (j : Nat) : Bool := match l[j]? with | some x => x.2 | none => false
theorem lostU_at1 {l : List ItM} {c : Int} : (lostU l c).isSome = (decide (1 ≤ c) && lostAt l (c - 1).toNat) := by
  unfold lostU lostAt
  by_cases h : 1 ≤ c
  · rw [if_pos h, decide_eq_true h, Bool.true_and]
    cases l[(c - 1).toNat]? with
    | none => rfl
    | some x =>
      obtain ⟨f, b⟩ := x
      cases b <;> rfl
  · rw [if_neg h, decide_eq_false h, Bool.false_and]; rfl
theorem sum_one (l : List ItM) (c : Int) : ∀ n : Nat, sumN n (fun j => if lostAt l j then (if c = ((j : Nat) : Int) + 1 then 1 else 0) else 0) = if (1 ≤ c ∧ c ≤ (n : Int)) ∧ lostAt l (c - 1).toNat then 1 else 0
  | 0 => by simp only [sumN]; rw [if_neg]; rintro ⟨⟨h1, h2⟩, -⟩; omega
  | n + 1 => by
    simp only [sumN]
    rw [sum_one l c n]
    by_cases h1 : c = (n : Int) + 1
    · have e : (c - 1).toNat = n := by omega
      rw [if_pos h1, e]
      rw [if_neg (by rintro ⟨⟨_, h2⟩, _⟩; omega)]
      by_cases h2 : lostAt l n = true
      · rw [if_pos h2, if_pos ⟨⟨by omega, by push_cast; omega⟩, h2⟩]; rfl
      · rw [if_neg h2, if_neg (fun h => h2 h.2)]; rfl
    · rw [if_neg h1, show (if lostAt l n = true then (0 : Int) else 0) = 0 by split <;> rfl, Int.add_zero]
      by_cases h2 : (1 ≤ c ∧ c ≤ (n : Int)) ∧ lostAt l (c - 1).toNat = true
      · rw [if_pos h2, if_pos ⟨⟨h2.1.1, by push_cast; omega⟩, h2.2⟩]
      · rw [if_neg h2, if_neg (fun h => h2 ⟨⟨h.1.1, by have := h.1.2; push_cast at this; omega⟩, h.2⟩)]
theorem lostAt_lt {l : List ItM} {j : Nat} (h : lostAt l j = true) : j < l.length := by
  unfold lostAt at h
  split at h
  · rename_i hx; exact (List.getElem?_eq_some_iff.1 hx).1
  · cases h
theorem sum_hits (l : List ItM) : ∀ ms : List (Nat × Int), sumN l.length (fun j => if lostAt l j then (hits (((j : Nat) : Int) + 1) ms : Int) else 0) = ((ms.filterMap fun m => lostU l m.2).length : Int)
  | [] => (sumN_congr l.length (h := fun _ => 0) (fun i _ => by split <;> rfl)).trans (sumN_zero _)
  | m :: ms => by
    rw [sumN_congr l.length (h := fun j => (if lostAt l j then (if m.2 = ((j : Nat) : Int) + 1 then 1 else 0) else 0) + (if lostAt l j then (hits (((j : Nat) : Int) + 1) ms : Int) else 0)) (fun i _ => by
      rw [hits_cons]
      split <;> simp), sumN_add, sum_hits l ms, sum_one, List.filterMap_cons]
    have h := lostU_at1 (l := l) (c := m.2)
    cases hu : lostU l m.2 with
    | none =>
      rw [hu] at h
      rw [if_neg]
      · simp
      · rintro ⟨⟨h1, h2⟩, h3⟩
        rw [h3, decide_eq_true h1] at h
        cases h
    | some x =>
      rw [hu] at h
      have h4 : decide (1 ≤ m.2) = true ∧ lostAt l (m.2 - 1).toNat = true := by simpa using h.symm
      have h1 := of_decide_eq_true h4.1
      have h5 := lostAt_lt h4.2
      rw [if_pos ⟨⟨h1, by omega⟩, h4.2⟩, List.length_cons]
      push_cast; omega
theorem gonesC_length (f : Bool) (id : Int) (ms : List (Int × Int)) (l : List ItM) : (gonesC f id ms l).length = ((ms.map fun m => (m.1.toNat, m.2)).filterMap fun m => lostU l m.2).length := by
  unfold gonesC
  rw [List.filterMap_map]
  induction ms with
  | nil => rfl
  | cons m ms ih =>
    rw [List.filterMap_cons, List.filterMap_cons]
    simp only [Function.comp]
    cases lostU l m.2 <;> simp [ih, Function.comp_def]
theorem sum_part (f : Bool) (l : List ItM) : ∀ A : List ContM, (∀ x ∈ A, validM (-1) x.maps) → sumN l.length (fun j => if lostAt l j then hitsL (A.map (toPart f)) (((j : Nat) : Int) + 1) else 0) = ((partL f A l).length : Int)
  | [], _ => (sumN_congr l.length (h := fun _ => 0) (fun i _ => by split <;> rfl)).trans (sumN_zero _)
  | x :: A, h => by
    rw [sumN_congr l.length (h := fun j => (if lostAt l j then (hits (((j : Nat) : Int) + 1) (mapsN x) : Int) else 0) + (if lostAt l j then hitsL (A.map (toPart f)) (((j : Nat) : Int) + 1) else 0)) (fun i _ => by
      have e : hitsL ((x :: A).map (toPart f)) (((i : Nat) : Int) + 1) = (hits (((i : Nat) : Int) + 1) (mapsN x) : Int) + hitsL (A.map (toPart f)) (((i : Nat) : Int) + 1) := by
        unfold hitsL
        rw [List.map_cons, List.map_cons, List.sum_cons]
        rw [show (toPart f x).m = addL x.maps from rfl, items_addL (h x List.mem_cons_self)]
        rfl
      rw [e]
      split <;> simp), sumN_add, sum_hits, sum_part f l A fun y hy => h y (List.mem_cons_of_mem _ hy)]
    unfold partL
    rw [List.flatMap_cons, List.length_append, gonesC_length]
    push_cast; rfl
def cumL (S : SpaceM) (l : List ItM) (k : Nat) : Int := sumN k fun j => if lostAt l j then sumR (refsS S (((j : Nat) : Int) + 1)) else 0
theorem cumL_succ (S : SpaceM) (l : List ItM) (k : Nat) : cumL S l (k + 1) = cumL S l k + if lostAt l k then sumR (refsS S (((k : Nat) : Int) + 1)) else 0 := rfl
theorem cumL_all {A B : List ContM} {l : List ItM} (h : validS A B) : cumL (spaceC A B) l l.length = ((reportL A B l).length : Int) := by
  unfold cumL
  rw [sumN_congr l.length (h := fun j => (if lostAt l j then hitsL (A.map (toPart false)) (((j : Nat) : Int) + 1) else 0) + (if lostAt l j then hitsL (B.map (toPart true)) (((j : Nat) : Int) + 1) else 0)) (fun i _ => by
    have e := refSum_eq (spaceC_wf h) (i + 1)
    unfold refSum at e
    rw [show (((i + 1 : Nat)) : Int) = ((i : Nat) : Int) + 1 by push_cast; rfl] at e
    rw [e]
    split <;> simp [spaceC]), sumN_add, sum_part false l A (fun x hx => okC_of h.1 x hx), sum_part true l B (fun x hx => okC_of h.2.1 x hx)]
  unfold reportL
  rw [List.length_append]
  push_cast; rfl
theorem sumRL_bound : ∀ {L : List (Nat × Int)} {b : Int}, (∀ x ∈ L, 1 ≤ x.2 ∧ x.2 ≤ b) → 0 ≤ sumR L ∧ sumR L ≤ b * L.length
  | [], b, _ => by simp [sumR]
  | x :: L, b, h => by
    have h1 := sumRL_bound (L := L) (b := b) fun y hy => h y (List.mem_cons_of_mem _ hy)
    have h2 := h x List.mem_cons_self
    have e : sumR (x :: L) = x.2 + sumR L := by unfold sumR; simp
    rw [e, List.length_cons]
    have e2 : b * ((L.length + 1 : Nat) : Int) = b * (L.length : Int) + b := by push_cast; rw [Int.mul_add, Int.mul_one]
    rw [e2]
    omega
theorem refs_bound {S : SpaceM} (h : S.WF) (c : Int) (j : Nat) : 0 ≤ sumR ((refsS S c).take j) ∧ sumR ((refsS S c).take j) ≤ 32000000 := by
  have h1 := sumRL_bound (L := (refsS S c).take j) (b := 2000000) fun x hx => by
    obtain ⟨i, hi⟩ := List.mem_iff_getElem?.1 (List.mem_of_mem_take hx)
    have := refs_at h hi
    omega
  have h2 : ((refsS S c).take j).length ≤ 16 := by
    rw [List.length_take]
    have := refsF_len (cntS S c) 16
    have e : (refsS S c).length ≤ 16 := this
    omega
  have h3 : (2000000 : Int) * (((refsS S c).take j).length : Int) ≤ 2000000 * 16 := Int.mul_le_mul_of_nonneg_left (by omega) (by omega)
  omega
theorem cumL_bound {S : SpaceM} (h : S.WF) (l : List ItM) : ∀ k : Nat, 0 ≤ cumL S l k ∧ cumL S l k ≤ 32000000 * (k : Int)
  | 0 => by simp [cumL, sumN]
  | k + 1 => by
    have h1 := cumL_bound h l k
    rw [cumL_succ]
    have h2 := refs_bound h (((k : Nat) : Int) + 1) (refsS S (((k : Nat) : Int) + 1)).length
    rw [List.take_length] at h2
    split <;> push_cast <;> omega
end Go.Proofs.YteikbikopgabjaaGreatDoor
