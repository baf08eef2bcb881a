/- Plain laws: what a flush of all bays, a loss of power, a removal and an insertion do to what Peek finds. It speaks of no program. -/
import Derived.Test.YtbegomjbakidmaaSk
namespace Go.Sl
open Go Go.RowKit
namespace ShelfM
def clean1 (b : BayM) : BayM := if b.state = 1 then ⟨b.disk.flush, 1⟩ else b
def Clean (S : ShelfM) : Prop := ∀ b ∈ S.bays, b.state = 1 → ∀ i, b.disk.cache i = none
theorem flushFrom_all (S : ShelfM) (ho : S.off = false) (hf : S.fused = false) : ∀ (m k : Nat) (L : List BayM), S.bays = L → k + m = L.length →
    S.flushFrom k m = ({ S with bays := L.take k ++ (L.drop k).map clean1 }, 0) := by
  intro m
  induction m generalizing S with
  | zero =>
    intro k L hL hk
    rw [List.drop_of_length_le (by omega), List.map_nil, List.append_nil, List.take_of_length_le (by omega), ← hL]; rfl
  | succ m ih =>
    intro k L hL hk
    have hlt : k < L.length := by omega
    have hb : S.bay (k : Int) = some L[k] := bay_some.2 ⟨by omega, by rw [hL, Int.toNat_natCast]; exact List.getElem?_eq_getElem hlt⟩
    have hst : S.state (k : Int) = L[k].state := bay_state hb
    have hdk : S.disk (k : Int) = L[k].disk := bay_disk hb
    have hdrop : L.drop k = L[k] :: L.drop (k + 1) := List.drop_eq_getElem_cons hlt
    show (if S.state k ≠ 1 then S.flushFrom (k + 1) m else if (S.flush k).2 ≠ 0 then S.flush k else (S.flush k).1.flushFrom (k + 1) m) = _
    by_cases h1 : L[k].state = 1
    · rw [if_neg (by rw [hst]; simp [h1])]
      have e : S.flush (k : Int) = (S.setDisk k (L[k].disk.flush), 0) := by
        unfold flush
        rw [if_neg (by rw [hst, h1]; decide), step_run ho (by rw [hst, h1]) hf, hdk]
      rw [e, if_neg (by simp)]
      have hbs : (S.setDisk (k : Int) L[k].disk.flush).bays = L.set k (clean1 L[k]) := by
        show S.bays.set (k : Int).toNat ⟨_, S.state k⟩ = _
        rw [hst, hL, Int.toNat_natCast]
        unfold clean1
        rw [if_pos h1, h1]
      rw [ih (S.setDisk (k : Int) L[k].disk.flush) ho hf (k + 1) (L.set k (clean1 L[k])) hbs (by rw [List.length_set]; omega)]
      congr 1
      show ShelfM.mk S.cfg _ S.images S.off S.fused S.left = ShelfM.mk S.cfg _ S.images S.off S.fused S.left
      congr 1
      rw [hdrop, List.map_cons, List.drop_set_of_lt (by omega), List.take_set, List.take_add_one, List.getElem?_eq_getElem hlt]
      simp only [Option.toList_some]
      have hlk : (L.take k).length = k := by rw [List.length_take]; omega
      rw [List.set_append_right _ _ (by rw [hlk]; exact Nat.le_refl _), hlk, Nat.sub_self]
      simp
    · rw [if_pos (by rw [hst]; exact h1)]
      rw [ih S ho hf (k + 1) L hL (by omega)]
      congr 1
      rw [hdrop, List.map_cons, List.take_add_one, List.getElem?_eq_getElem hlt]
      simp only [Option.toList_some, List.append_assoc, List.singleton_append]
      have : clean1 L[k] = L[k] := by unfold clean1; rw [if_neg h1]
      rw [this]
theorem flushAll_all {S : ShelfM} (ho : S.off = false) (hf : S.fused = false) : S.flushAll = ({ S with bays := S.bays.map clean1 }, 0) := by
  unfold flushAll
  rw [if_neg (by simp [ho]), flushFrom_all S ho hf S.bays.length 0 S.bays rfl (by omega)]
  rfl
theorem clean_all (S : ShelfM) : Clean { S with bays := S.bays.map clean1 } := by
  intro b hb h1 i
  obtain ⟨c, _, rfl⟩ := List.mem_map.1 hb
  unfold clean1 at h1 ⊢
  split
  · rfl
  · rename_i hc; rw [if_neg hc] at h1; exact absurd h1 hc

theorem pending_clean {D : DiskM} (h : ∀ i, D.cache i = none) : D.pending = [] := by
  unfold DiskM.pending
  rw [List.filter_eq_nil_iff]
  intro i _
  rw [h i]; simp
theorem cutBays_clean : ∀ (l : List BayM) (p : List Int), (∀ b ∈ l, b.state = 1 → ∀ i, b.disk.cache i = none) → cutBays l p = l.map fun b => if b.state = 1 then ⟨b.disk.cut [], 1⟩ else b
  | [], _, _ => rfl
  | b :: r, p, h => by
    have ih := fun p => cutBays_clean r p (fun c hc => h c (by simp [hc]))
    unfold cutBays
    rw [List.map_cons]
    by_cases h1 : b.state = 1
    · rw [if_pos h1, if_pos h1, pending_clean (h b (by simp) h1), List.length_nil, List.take_zero, List.drop_zero, ih]
    · rw [if_neg h1, if_neg h1, ih]
theorem cut_content {D : DiskM} (h : ∀ i, D.cache i = none) (l : List Int) (i : Nat) : (D.cut l).content i = D.content i := by
  unfold DiskM.content
  show ((none : Option (List UInt8)).getD ((D.cut l).dur i)) = _
  rw [h i]
  simp only [Option.getD_none]
  unfold DiskM.cut
  simp only [h i]
theorem cut_clean (D : DiskM) (l : List Int) : ∀ i, (D.cut l).cache i = none := fun _ => rfl

/-- Two shelves that look alike. -/
theorem peek_same {S T : ShelfM} (hc : S.cfg = T.cfg) (hst : ∀ d, S.state d = T.state d) (hd : ∀ d, T.state d = 1 → (S.disk d).n = (T.disk d).n ∧ ∀ i, (S.disk d).content i = (T.disk d).content i) (a : PlaceM) : S.peek a = T.peek a := by
  have hn : S.number a = T.number a := by unfold number; rw [hst, hc]
  unfold peek
  rw [hn, hst]
  split
  · rfl
  · split
    · rename_i h1
      obtain ⟨e1, e2⟩ := hd _ h1
      have e : (S.disk a.disk).read (T.number a) = (T.disk a.disk).read (T.number a) := by
        unfold DiskM.read DiskM.has
        rw [e1, e2]
      rw [e]
    · rfl
theorem mount_clean_bay {S : ShelfM} (h : Clean S) (p : List Int) (d : Int) : (S.mount p).bay d = (S.bay d).map fun b => if b.state = 1 then ⟨b.disk.cut [], 1⟩ else b := by
  unfold bay
  split
  · show (cutBays S.bays p)[d.toNat]? = _
    rw [cutBays_clean S.bays p h, List.getElem?_map]
  · rfl
theorem mount_clean {S : ShelfM} (h : Clean S) (p : List Int) : (∀ d, (S.mount p).state d = S.state d) ∧ (∀ d, S.state d = 1 → (S.mount p).disk d = (S.disk d).cut []) := by
  refine ⟨mount_state S p, fun d h1 => ?_⟩
  unfold disk
  rw [mount_clean_bay h]
  cases hb : S.bay d with
  | none => unfold state at h1; rw [hb] at h1; simp at h1
  | some b =>
    have : b.state = 1 := by unfold state at h1; rw [hb] at h1; exact h1
    simp [this]
theorem clean_disk {S : ShelfM} (h : Clean S) {d : Int} (h1 : S.state d = 1) : ∀ i, (S.disk d).cache i = none := by
  unfold disk
  unfold state at h1
  cases hb : S.bay d with
  | none => rw [hb] at h1; simp at h1
  | some b => rw [hb] at h1; exact h b (List.mem_of_getElem? (bay_some.1 hb).2) h1

/-- What is behind the removal and the insertion: T in place of the shelf S that was flushed and mounted. -/
structure Alike (T S : ShelfM) : Prop where
  peek : ∀ a, T.peek a = S.peek a
theorem mount_alike {S : ShelfM} (h : Clean S) (p : List Int) : Alike (S.mount p) S := by
  obtain ⟨h1, h2⟩ := mount_clean h p
  refine ⟨peek_same rfl h1 fun d hd => ?_⟩
  rw [h2 d hd]
  exact ⟨rfl, cut_content (clean_disk h hd) []⟩
/-- A disk is taken out and its image put back. -/
theorem reinsert {S : ShelfM} (h : Clean S) (p : List Int) {d : Int} (hw : (S.mount p).WF) (h1 : S.state d = 1) :
    ((S.mount p).remove d).2.2 = 0 ∧ ((S.mount p).remove d).2.1 = (S.images.length : Int) ∧ ((S.mount p).remove d).1.state d = 2 ∧ (((S.mount p).remove d).1.insert d (S.images.length : Int)).2 = 0 ∧
      (((S.mount p).remove d).1.insert d (S.images.length : Int)).1.state d = 1 ∧ Alike (((S.mount p).remove d).1.insert d (S.images.length : Int)).1 S := by
  obtain ⟨e1, e2⟩ := mount_clean h p
  have hst : (S.mount p).state d = 1 := by rw [e1]; exact h1
  obtain ⟨i1, i2⟩ := state_in hw (d := d) (by rw [hst]; decide)
  have hwant : (S.mount p).want d true 15 = 0 := by
    unfold want
    rw [hst]; simp
  have hr : (S.mount p).remove d = ({ (S.mount p).setBay d ⟨d0, 2⟩ with images := S.images ++ [((S.mount p).disk d).cut []] }, (S.images.length : Int), 0) := by
    unfold remove
    rw [if_pos hwant]; rfl
  rw [hr]
  obtain ⟨T, hT⟩ : ∃ T : ShelfM, T = { (S.mount p).setBay d ⟨d0, 2⟩ with images := S.images ++ [((S.mount p).disk d).cut []] } := ⟨_, rfl⟩
  rw [← hT]
  have hTb : ∀ e, T.bay e = if e = d then some ⟨d0, 2⟩ else (S.mount p).bay e := fun e => by rw [hT]; exact setBay_state (S := S.mount p) (d := d) (e := e) i1 i2
  have hTs : T.state d = 2 := bay_state (by rw [hTb, if_pos rfl])
  have hTi : T.images = S.images ++ [((S.mount p).disk d).cut []] := by rw [hT]
  have hTl : T.bays.length = (S.mount p).bays.length := by rw [hT]; exact List.length_set
  have hTc : T.cfg = S.cfg := by rw [hT]; rfl
  have hin : T.insert d (S.images.length : Int) = (T.setBay d ⟨((S.mount p).disk d).cut [], 1⟩, 0) := by
    unfold insert
    rw [if_neg (by rw [hTs]; decide), if_neg (by rw [hTi]; simp; omega), if_neg (by rw [hTs]; decide), hTi]
    congr 3
    simp
  rw [hin]
  have hUb : ∀ e, (T.setBay d ⟨((S.mount p).disk d).cut [], 1⟩).bay e = if e = d then some ⟨((S.mount p).disk d).cut [], 1⟩ else T.bay e := fun e => setBay_state i1 (by rw [hTl]; exact i2)
  have hUs : (T.setBay d ⟨((S.mount p).disk d).cut [], 1⟩).state d = 1 := bay_state (by rw [hUb, if_pos rfl])
  refine ⟨rfl, rfl, hTs, rfl, hUs, ⟨peek_same hTc (fun e => ?_) fun e he => ?_⟩⟩
  · by_cases hed : e = d
    · subst hed; rw [hUs, h1]
    · unfold state; rw [hUb, if_neg hed, hTb, if_neg hed]; exact e1 e
  · by_cases hed : e = d
    · subst hed
      have : (T.setBay e ⟨((S.mount p).disk e).cut [], 1⟩).disk e = ((S.mount p).disk e).cut [] := bay_disk (by rw [hUb, if_pos rfl])
      rw [this, e2 e h1]
      exact ⟨rfl, fun i => by rw [cut_content (cut_clean _ _), cut_content (clean_disk h h1)]⟩
    · have hb2 : (T.setBay d ⟨((S.mount p).disk d).cut [], 1⟩).bay e = (S.mount p).bay e := by rw [hUb, if_neg hed, hTb, if_neg hed]
      have : ∀ A B : ShelfM, A.bay e = B.bay e → A.disk e = B.disk e := fun A B h => by unfold disk; rw [h]
      have := this _ _ hb2
      rw [this, e2 e he]
      exact ⟨rfl, cut_content (clean_disk h he) []⟩
theorem remove_none {S : ShelfM} {d : Int} (h1 : S.state d ≠ 1) : (S.remove d).1 = S ∧ (S.remove d).2.2 ≠ 0 := by
  have : S.want d true 15 ≠ 0 := by
    unfold want
    split
    · decide
    · simp [h1]
  unfold remove
  rw [if_neg this]
  exact ⟨rfl, this⟩
end ShelfM
end Go.Sl
