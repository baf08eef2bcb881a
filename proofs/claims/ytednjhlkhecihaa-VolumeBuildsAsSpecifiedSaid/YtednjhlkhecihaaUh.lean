/- Plain laws of VolumeBuilds: a tree that is built of a tree's mappings, and where volumes and snapshots come from. -/
import Derived.Test.YtednjhlkhecihaaUp
import Derived.Test.YtednjhlkhecihaaWk
namespace Go.Proofs.Ytednjhlkhecihaa
open Go.RowKit Go.Vol Go.Vol.SpaceM Go.Sl

/-- The tree that some mappings build, one after the other. -/
def addN (l : List (Nat × Int)) : MapM := l.foldl (fun m x => upd m x.1 (some x.2)) Vol.empty
theorem addN_snoc (l : List (Nat × Int)) (x : Nat × Int) : addN (l ++ [x]) = upd (addN l) x.1 (some x.2) := by unfold addN; rw [List.foldl_append]; rfl
theorem addN_take {l : List (Nat × Int)} {k : Nat} {x : Nat × Int} (h : l[k]? = some x) : addN (l.take (k + 1)) = upd (addN (l.take k)) x.1 (some x.2) := by
  rw [List.take_add_one, h]; exact addN_snoc _ _
theorem addN_itemsF (m : MapM) : ∀ n, addN (itemsF n 0 m) = fun b => if b < n then m b else none
  | 0 => by rw [itemsF_zero]; funext b; simp [addN, Vol.empty]
  | n + 1 => by
    have ih := addN_itemsF m n
    cases hm : m n with
    | none =>
      rw [itemsF_none hm, ih]
      funext b
      by_cases h : b < n
      · rw [if_pos h, if_pos (by omega)]
      · rw [if_neg h]
        by_cases h2 : b = n
        · rw [h2, if_pos (by omega), hm]
        · rw [if_neg (by omega)]
    | some c =>
      rw [itemsF_some hm, addN_snoc, ih]
      funext b
      unfold upd
      simp only [Nat.zero_add]
      by_cases h2 : b = n
      · rw [if_pos h2, if_pos (by omega), h2, hm]
      · rw [if_neg h2]
        by_cases h : b < n
        · rw [if_pos h, if_pos (by omega)]
        · rw [if_neg h, if_neg (by omega)]
theorem addN_items {m : MapM} (h : ∀ b, 4096 ≤ b → m b = none) : addN (items m) = m := by
  unfold items
  rw [addN_itemsF]
  funext b
  by_cases hb : b < 4096
  · rw [if_pos hb]
  · rw [if_neg hb, h b (by omega)]
theorem itemsF_up (m : MapM) (first : Nat) : ∀ n, (itemsF n first m).Pairwise fun a b => a.1 < b.1
  | 0 => by rw [itemsF_zero]; exact List.Pairwise.nil
  | n + 1 => by
    rw [itemsF_succ, List.pairwise_append]
    refine ⟨itemsF_up m first n, ?_, fun a ha b hb => ?_⟩
    · cases m n <;> simp
    · have h1 := itemsF_mem ha
      cases hm : m n with
      | none => rw [hm] at hb; simp at hb
      | some c => rw [hm] at hb; simp at hb; subst hb; exact h1.2
theorem items_up (m : MapM) : (items m).Pairwise fun a b => a.1 < b.1 := itemsF_up m 0 4096
theorem items_lt {m : MapM} {x : Nat × Int} (h : x ∈ items m) : x.1 < 4096 := by have := itemsF_mem h; omega
/-- What lies behind an element is greater. -/
theorem pair_drop {α : Type} {R : α → α → Prop} {l : List α} (h : l.Pairwise R) {k : Nat} {x : α} (hx : l[k]? = some x) : ∀ y ∈ l.drop (k + 1), R x y := by
  obtain ⟨hlt, he⟩ := List.getElem?_eq_some_iff.1 hx
  intro y hy
  obtain ⟨i, hi, e⟩ := List.mem_iff_getElem.1 hy
  rw [List.getElem_drop] at e
  rw [← he, ← e]
  exact List.pairwise_iff_getElem.1 h _ _ _ _ (by omega)
theorem Incr.pair : ∀ {l : List PartM} {k : Int}, Incr l k → l.Pairwise fun a b => a.id < b.id
  | [], _, _ => List.Pairwise.nil
  | p :: r, _, h => List.pairwise_cons.2 ⟨fun q hq => by have := h.2.le q hq; omega, Incr.pair h.2⟩
/-- Volumes come from nowhere, snapshots from volumes. -/
def SrcOk (S : SpaceM) : Prop := (∀ p ∈ S.vols, p.src = 0) ∧ (∀ p ∈ S.snaps, 0 ≤ p.src ∧ p.src < 64)
theorem src_new : SrcOk SpaceM.new := ⟨by simp [SpaceM.new], by simp [SpaceM.new]⟩
theorem src_create {S T : SpaceM} {t : Int} {m : MapM} (h : SrcOk S) (hT : (S.create t m).sp = some T) : SrcOk T := by
  unfold SpaceM.create at hT
  split at hT
  · simp at hT
  · split at hT
    · simp at hT
    · simp only [Option.some.injEq] at hT
      subst hT
      refine ⟨fun p hp => ?_, h.2⟩
      rcases mem_insertIdx_of hp with rfl | hp
      · rfl
      · exact h.1 p hp
theorem src_change {S T : SpaceM} {v : Int} {ok : Bool} {f : PartM → PartM} (h : SrcOk S) (hf : ∀ p, (f p).src = p.src) (hT : (S.change v ok f).sp = some T) : SrcOk T := by
  unfold SpaceM.change at hT
  split at hT
  · simp at hT
  · rename_i p hp
    split at hT
    · simp only [Option.some.injEq] at hT
      subst hT
      refine ⟨fun q hq => ?_, h.2⟩
      rcases List.mem_or_eq_of_mem_set hq with hq | rfl
      · exact h.1 q hq
      · rw [hf]; exact h.1 p (List.mem_of_getElem? hp)
    · simp at hT
theorem src_do {S : SpaceM} {o : VOp} (hw : S.WF) (h : SrcOk S) : SrcOk (doM S o) := by
  unfold doM
  cases hT : (stepM S o).sp with
  | none => exact h
  | some T =>
    simp only
    unfold stepM at hT
    split at hT
    · exact src_create h hT
    split at hT
    · unfold SpaceM.delete at hT
      split at hT
      · simp at hT
      · simp only [Option.some.injEq] at hT
        subst hT
        exact ⟨fun p hp => h.1 p (List.mem_of_mem_eraseIdx hp), h.2⟩
    split at hT
    · exact src_change (f := fun p => { p with tenant := o.b }) h (fun _ => rfl) hT
    split at hT
    · exact src_change (f := fun p => { p with m := upd p.m o.b.toNat (some o.c) }) h (fun _ => rfl) hT
    split at hT
    · exact src_change (f := fun p => { p with m := upd p.m o.b.toNat none }) h (fun _ => rfl) hT
    split at hT
    · unfold SpaceM.snapshot at hT
      split at hT
      · simp at hT
      · rename_i p hp
        split at hT
        · simp at hT
        · simp only [Option.some.injEq] at hT
          subst hT
          refine ⟨h.1, fun q hq => ?_⟩
          rcases mem_insertIdx_of hq with rfl | hq
          · have hid := atN_some hp
            have hm := List.mem_of_getElem? hp
            have h1 := hw.vlt p hm
            have h2 := hw.vols.le p hm
            simp only
            omega
          · exact h.2 q hq
    split at hT
    · unfold SpaceM.drop at hT
      split at hT
      · simp at hT
      · simp only [Option.some.injEq] at hT
        subst hT
        exact ⟨h.1, fun p hp => h.2 p (List.mem_of_mem_eraseIdx hp)⟩
    split at hT
    · unfold SpaceM.clone at hT
      split at hT
      · simp at hT
      · exact src_create h hT
    split at hT
    · unfold SpaceM.restore at hT
      split at hT
      · simp at hT
      · rename_i p hp
        exact src_change (f := fun q => { q with m := p.m }) h (fun _ => rfl) hT
    · simp only [Option.some.injEq] at hT
      subst hT; exact h
theorem cntF_empty : ∀ n, cntF n Vol.empty = 0
  | 0 => rfl
  | n + 1 => by rw [cntF_succ, cntF_empty n]; rfl
theorem cnt_empty : cnt (addN []) = 0 := cntF_empty 4096
end Go.Proofs.Ytednjhlkhecihaa
