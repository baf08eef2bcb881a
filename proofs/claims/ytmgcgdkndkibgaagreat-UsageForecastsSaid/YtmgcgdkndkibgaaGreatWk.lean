/- The plain law of VolumeCounts: the references to all chunks add up to the mapped blocks. -/
import Derived.Test.YtmgcgdkndkibgaaGreatWq
import Derived.Test.YtmgcgdkndkibgaaGreatWa
namespace Go.Proofs.YtmgcgdkndkibgaaGreat
open Go.RowKit Go.Vol Go.Vol.SpaceM

def sumN : Nat → (Nat → Int) → Int
  | 0, _ => 0
  | n + 1, g => sumN n g + g n
theorem sumN_add (g h : Nat → Int) : ∀ n, sumN n (fun c => g c + h c) = sumN n g + sumN n h
  | 0 => rfl
  | n + 1 => by simp only [sumN, sumN_add g h n]; omega
theorem sumN_congr {g h : Nat → Int} : ∀ n, (∀ i, i < n → g i = h i) → sumN n g = sumN n h
  | 0, _ => rfl
  | n + 1, e => by simp only [sumN]; rw [sumN_congr n (fun i hi => e i (by omega)), e n (by omega)]
theorem sumN_zero : ∀ n, sumN n (fun _ => 0) = 0
  | 0 => rfl
  | n + 1 => by simp only [sumN, sumN_zero n]; rfl
theorem sumN_le {g : Nat → Int} {b : Int} : ∀ n, (∀ i, i < n → 0 ≤ g i ∧ g i ≤ b) → 0 ≤ sumN n g ∧ sumN n g ≤ n * b
  | 0, _ => by simp [sumN]
  | n + 1, e => by
    have h1 := sumN_le n fun i hi => e i (by omega)
    have h2 := e n (by omega)
    simp only [sumN]
    rw [Int.natCast_add, Int.add_mul]
    constructor
    · omega
    · have : ((1 : Nat) : Int) * b = b := by simp
      omega
theorem sumN_one {a : Int} : ∀ n : Nat, 0 ≤ a → sumN n (fun c => if a = (c : Int) then 1 else 0) = if a < (n : Int) then 1 else 0
  | 0, h => by simp [sumN]; omega
  | n + 1, h => by
    simp only [sumN]
    rw [sumN_one n h]
    by_cases h1 : a < (n : Int)
    · rw [if_pos h1, if_neg (by omega), if_pos (by omega)]; rfl
    · rw [if_neg h1]
      by_cases h2 : a = (n : Int)
      · rw [if_pos h2, if_pos (by omega)]; rfl
      · rw [if_neg h2, if_neg (by omega)]; rfl
/-- One more item of a list counts for one chunk. -/
theorem hits_cons (c : Int) (x : Nat × Int) (l : List (Nat × Int)) : (hits c (x :: l) : Int) = (if x.2 = c then 1 else 0) + hits c l := by
  unfold hits
  rw [List.filter_cons]
  by_cases h : x.2 = c
  · simp [h]; omega
  · simp [h]
theorem hits_sum : ∀ l : List (Nat × Int), (∀ x ∈ l, 0 ≤ x.2 ∧ x.2 < 40) → sumN 40 (fun c => (hits c l : Int)) = l.length
  | [], _ => (sumN_congr 40 (h := fun _ => 0) (fun i _ => rfl)).trans (sumN_zero 40)
  | x :: l, h => by
    have h1 := h x (by simp)
    rw [sumN_congr 40 (h := fun c => (if x.2 = (c : Int) then 1 else 0) + (hits (c : Int) l : Int)) (fun i _ => hits_cons _ _ _), sumN_add, hits_sum l (fun y hy => h y (by simp [hy])), sumN_one 40 h1.1, if_pos (by exact_mod_cast h1.2), List.length_cons]
    omega
/-- What is bumped is added. -/
theorem sumN_bump (f : Nat → Int) (t k : Nat) : ∀ n, sumN n (bump f t k) = sumN n f + if t < n then (k : Int) else 0
  | 0 => by simp [sumN]
  | n + 1 => by
    simp only [sumN]
    rw [sumN_bump f t k n]
    unfold bump
    by_cases h1 : t < n
    · rw [if_pos h1, if_neg (by omega), if_pos (by omega)]; omega
    · rw [if_neg h1]
      by_cases h2 : n = t
      · rw [if_pos h2, if_pos (by omega)]; omega
      · rw [if_neg h2, if_neg (by omega)]; omega
def hitsL (l : List PartM) (c : Int) : Int := (l.map fun p => (hits c (items p.m) : Int)).sum
theorem cntOf_sum (c : Int) : ∀ (l : List PartM) (f : Nat → Int), (∀ p ∈ l, p.tenant.toNat < 16) → sumN 16 (cntOf l c f) = sumN 16 f + hitsL l c
  | [], f, _ => by simp [cntOf, hitsL]
  | p :: r, f, h => by
    have h1 := cntOf_sum c r (bump f p.tenant.toNat (hits c (items p.m))) (fun q hq => h q (by simp [hq]))
    have h2 : cntOf (p :: r) c f = cntOf r c (bump f p.tenant.toNat (hits c (items p.m))) := rfl
    rw [h2, h1, sumN_bump, if_pos (h p (by simp))]
    unfold hitsL
    rw [List.map_cons, List.sum_cons]
    omega
theorem cntOf_nonneg (c : Int) (t : Nat) : ∀ (l : List PartM) (f : Nat → Int), 0 ≤ f t → 0 ≤ cntOf l c f t := fun l f h => (cntOf_le c t l f (f t) h (Int.le_refl _)).1
theorem cntS_nonneg (S : SpaceM) (c : Int) (t : Nat) : 0 ≤ cntS S c t := cntOf_nonneg c t _ _ (cntOf_nonneg c t _ _ (Int.le_refl _))
def sumR (l : List (Nat × Int)) : Int := (l.map Prod.snd).sum
theorem sumR_snoc (l : List (Nat × Int)) (x : Nat × Int) : sumR (l ++ [x]) = sumR l + x.2 := by unfold sumR; rw [List.map_append, List.sum_append]; simp
theorem sumR_refsF (f : Nat → Int) (h : ∀ t, 0 ≤ f t) : ∀ n, sumR (refsF n f) = sumN n f
  | 0 => rfl
  | n + 1 => by
    rw [refsF_succ]
    simp only [sumN]
    by_cases hp : 0 < f n
    · rw [if_pos hp, sumR_snoc, sumR_refsF f h n]
    · have := h n
      rw [if_neg hp, List.append_nil, sumR_refsF f h n]; omega
/-- Tenants go up, and counts are positive. -/
theorem refsF_mem {f : Nat → Int} : ∀ {n : Nat} {x : Nat × Int}, x ∈ refsF n f → x.1 < n ∧ x.2 = f x.1 ∧ 0 < x.2
  | 0, x, h => by simp [refsF] at h
  | n + 1, x, h => by
    rw [refsF_succ, List.mem_append] at h
    rcases h with h | h
    · have := refsF_mem h; exact ⟨by omega, this.2⟩
    · by_cases hp : 0 < f n
      · rw [if_pos hp, List.mem_singleton] at h
        subst h
        exact ⟨Nat.lt_succ_self _, rfl, hp⟩
      · rw [if_neg hp] at h; simp at h
theorem refsF_up {f : Nat → Int} : ∀ {n : Nat}, (refsF n f).Pairwise fun a b => a.1 < b.1
  | 0 => by simp [refsF]
  | n + 1 => by
    rw [refsF_succ, List.pairwise_append]
    refine ⟨refsF_up, ?_, fun a ha b hb => ?_⟩
    · split <;> simp
    · have h1 := refsF_mem ha
      split at hb
      · obtain rfl : b = _ := List.mem_singleton.1 hb
        exact h1.1
      · simp at hb
/-- All that is mapped lies below 40. -/
def Low (S : SpaceM) : Prop := (∀ p ∈ S.vols, ∀ b c, p.m b = some c → c < 40) ∧ (∀ p ∈ S.snaps, ∀ b c, p.m b = some c → c < 40)
theorem low_new : Low SpaceM.new := ⟨by simp [SpaceM.new], by simp [SpaceM.new]⟩
theorem low_create {S T : SpaceM} {t : Int} {m : MapM} (h : Low S) (hm : ∀ b c, m b = some c → c < 40) (hT : (S.create t m).sp = some T) : Low T := by
  unfold SpaceM.create at hT
  split at hT
  · simp at hT
  · split at hT
    · simp at hT
    · simp only [Option.some.injEq] at hT
      subst hT
      refine ⟨fun p hp => ?_, h.2⟩
      rcases mem_insertIdx_of hp with rfl | hp
      · exact hm
      · exact h.1 p hp
theorem low_change {S T : SpaceM} {v : Int} {ok : Bool} {f : PartM → PartM} (h : Low S) (hf : ok = true → ∀ p ∈ S.vols, ∀ b c, (f p).m b = some c → c < 40) (hT : (S.change v ok f).sp = some T) : Low T := by
  unfold SpaceM.change at hT
  split at hT
  · simp at hT
  · rename_i p hp
    split at hT
    · rename_i hok
      simp only [Option.some.injEq] at hT
      subst hT
      refine ⟨fun q hq => ?_, h.2⟩
      rcases List.mem_or_eq_of_mem_set hq with hq | rfl
      · exact h.1 q hq
      · exact hf hok p (List.mem_of_getElem? hp)
    · simp at hT
theorem low_do {S : SpaceM} {o : VOp} (h : Low S) (ho : o.c < 40) : Low (doM S o) := by
  unfold doM
  cases hT : (stepM S o).sp with
  | none => exact h
  | some T =>
    simp only
    unfold stepM at hT
    split at hT
    · exact low_create h (fun b c hc => by simp [Vol.empty] at hc) hT
    split at hT
    · unfold SpaceM.delete at hT
      split at hT
      · simp at hT
      · simp only [Option.some.injEq] at hT
        subst hT
        exact ⟨fun p hp => h.1 p (List.mem_of_mem_eraseIdx hp), h.2⟩
    split at hT
    · exact low_change (f := fun p => { p with tenant := o.b }) h (fun _ p hp => h.1 p hp) hT
    split at hT
    · refine low_change (f := fun p => { p with m := upd p.m o.b.toNat (some o.c) }) h (fun _ p hp b c hc => ?_) hT
      have hc' : upd p.m o.b.toNat (some o.c) b = some c := hc
      unfold upd at hc'
      split at hc'
      · cases hc'; exact ho
      · exact h.1 p hp b c hc'
    split at hT
    · refine low_change (f := fun p => { p with m := upd p.m o.b.toNat none }) h (fun _ p hp b c hc => ?_) hT
      have hc' : upd p.m o.b.toNat none b = some c := hc
      unfold upd at hc'
      split at hc'
      · cases hc'
      · exact h.1 p hp b c hc'
    split at hT
    · unfold SpaceM.snapshot at hT
      split at hT
      · simp at hT
      · rename_i p hp
        split at hT
        · simp at hT
        · simp only [Option.some.injEq] at hT
          subst hT
          refine ⟨h.1, fun q hq => ?_⟩
          rcases mem_insertIdx_of hq with rfl | hq
          · exact h.1 p (List.mem_of_getElem? hp)
          · exact h.2 q hq
    split at hT
    · unfold SpaceM.drop at hT
      split at hT
      · simp at hT
      · simp only [Option.some.injEq] at hT
        subst hT
        exact ⟨h.1, fun p hp => h.2 p (List.mem_of_mem_eraseIdx hp)⟩
    split at hT
    · unfold SpaceM.clone at hT
      split at hT
      · simp at hT
      · rename_i p hp
        exact low_create h (h.2 p (List.mem_of_getElem? hp)) hT
    split at hT
    · unfold SpaceM.restore at hT
      split at hT
      · simp at hT
      · rename_i p hp
        exact low_change (f := fun q => { q with m := p.m }) h (fun _ _ _ => h.2 p (List.mem_of_getElem? hp)) hT
    · simp only [Option.some.injEq] at hT
      subst hT; exact h
/-- The numbers of mapped blocks of some parts. -/
def cntL (l : List PartM) : Int := (l.map fun p => (cnt p.m : Int)).sum
theorem items_chunk {m : MapM} {x : Nat × Int} (h : x ∈ items m) : ∃ b, m b = some x.2 := by
  unfold items itemsF at h
  obtain ⟨i, _, hi⟩ := List.mem_filterMap.1 h
  cases hm : m i with
  | none => rw [hm] at hi; cases hi
  | some c => rw [hm] at hi; cases hi; exact ⟨i, hm⟩
theorem hitsL_sum : ∀ l : List PartM, (∀ p ∈ l, p.WF) → (∀ p ∈ l, ∀ b c, p.m b = some c → c < 40) → sumN 40 (fun c => hitsL l c) = cntL l
  | [], _, _ => (sumN_congr 40 (h := fun _ => 0) (fun i _ => rfl)).trans (sumN_zero 40)
  | p :: r, h, hl => by
    have e : ∀ c : Nat, hitsL (p :: r) c = (hits c (items p.m) : Int) + hitsL r c := fun c => by unfold hitsL; rw [List.map_cons, List.sum_cons]
    rw [sumN_congr 40 (fun i _ => e i), sumN_add, hitsL_sum r (fun q hq => h q (by simp [hq])) (fun q hq => hl q (by simp [hq])), hits_sum, items_len]
    · unfold cntL; rw [List.map_cons, List.sum_cons]
    · intro x hx
      obtain ⟨b, hb⟩ := items_chunk hx
      exact ⟨((h p (by simp)).chk b _ hb).1, hl p (by simp) b _ hb⟩
/-- The references of a chunk, added up. -/
def refSum (S : SpaceM) (c : Nat) : Int := sumR (refsS S (c : Int))
theorem refSum_eq {S : SpaceM} (h : S.WF) (c : Nat) : refSum S c = hitsL S.vols c + hitsL S.snaps c := by
  unfold refSum refsS
  rw [sumR_refsF _ (cntS_nonneg S c)]
  unfold cntS
  rw [cntOf_sum _ _ _ (fun p hp => by have := (h.sp p hp).ten; omega), cntOf_sum _ _ _ (fun p hp => by have := (h.vp p hp).ten; omega)]
  rw [show sumN 16 zeroF = 0 from sumN_zero 16]
  omega
theorem counts {S : SpaceM} (h : S.WF) (hl : Low S) : sumN 40 (refSum S) = cntL S.vols + cntL S.snaps := by
  rw [sumN_congr 40 (h := fun c => hitsL S.vols c + hitsL S.snaps c) (fun i _ => refSum_eq h i), sumN_add, hitsL_sum _ h.vp hl.1, hitsL_sum _ h.sp hl.2]
theorem cntL_bound : ∀ l : List PartM, 0 ≤ cntL l ∧ cntL l ≤ 4096 * l.length
  | [] => by simp [cntL]
  | p :: r => by
    have h := cntL_bound r
    have h2 := cnt_le p.m
    unfold cntL at h ⊢
    rw [List.map_cons, List.sum_cons, List.length_cons]
    omega
theorem cntL_take {l : List PartM} {k : Nat} {p : PartM} (h : l[k]? = some p) : cntL (l.take (k + 1)) = cntL (l.take k) + (cnt p.m : Int) := by
  unfold cntL
  rw [List.take_add_one, h, List.map_append, List.sum_append]; simp
theorem sumR_take {l : List (Nat × Int)} {k : Nat} {x : Nat × Int} (h : l[k]? = some x) : sumR (l.take (k + 1)) = sumR (l.take k) + x.2 := by
  rw [List.take_add_one, h]; exact sumR_snoc _ _
theorem cntS_bound {S : SpaceM} (h : S.WF) (c : Int) (t : Nat) : 0 ≤ cntS S c t ∧ cntS S c t ≤ 2000000 := by
  have h1 := cntOf_le c t S.vols zeroF 0 (Int.le_refl _) (Int.le_refl _)
  have h2 := cntOf_le c t S.snaps (cntOf S.vols c zeroF) _ h1.1 h1.2
  have h3 := h.vlen
  have h4 := h.slen
  unfold cntS
  omega
/-- An entry of a list of references, and the one before it. -/
theorem refs_at {S : SpaceM} (h : S.WF) {c : Int} {j : Nat} {x : Nat × Int} (hx : (refsS S c)[j]? = some x) : 1 ≤ x.2 ∧ x.2 ≤ 2000000 ∧ x.1 < 16 ∧ j < 16 ∧ (0 < j → ∃ y, (refsS S c)[j - 1]? = some y ∧ y.1 < x.1) := by
  have hm := refsF_mem (List.mem_of_getElem? hx)
  have hb := cntS_bound h c x.1
  have hlt := (List.getElem?_eq_some_iff.1 hx).1
  have hlen := refsF_len (cntS S c) 16
  refine ⟨by omega, by rw [hm.2.1]; exact hb.2, hm.1, by unfold refsS at hlt; omega, fun hj => ?_⟩
  have hl2 : j - 1 < (refsS S c).length := by omega
  refine ⟨_, List.getElem?_eq_getElem hl2, ?_⟩
  have h9 : ((refsS S c)[j - 1]).1 < ((refsS S c)[j]).1 := List.pairwise_iff_getElem.1 (refsF_up (f := cntS S c) (n := 16)) (j - 1) j hl2 hlt (by omega)
  have h8 : (refsS S c)[j] = x := (List.getElem?_eq_some_iff.1 hx).2
  rw [h8] at h9
  exact h9
theorem sumR_bound {S : SpaceM} (h : S.WF) (c : Int) : ∀ j, 0 ≤ sumR ((refsS S c).take j) ∧ sumR ((refsS S c).take j) ≤ 2000000 * j
  | 0 => by simp [sumR]
  | j + 1 => by
    have ih := sumR_bound h c j
    cases hx : (refsS S c)[j]? with
    | none => rw [List.take_add_one, hx]; simp only [Option.toList_none, List.append_nil]; omega
    | some x =>
      have := refs_at h hx
      rw [sumR_take hx]; omega
theorem refSum_bound {S : SpaceM} (h : S.WF) (c : Nat) : 0 ≤ refSum S c ∧ refSum S c ≤ 32000000 := by
  have hb := sumR_bound h (c : Int) 16
  rw [show (refsS S (c : Int)).take 16 = refsS S (c : Int) from List.take_of_length_le (refsF_len _ _)] at hb
  unfold refSum; omega
end Go.Proofs.YtmgcgdkndkibgaaGreat
