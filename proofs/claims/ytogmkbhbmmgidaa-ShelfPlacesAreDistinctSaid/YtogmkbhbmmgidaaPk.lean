/- Plain laws: what a write does to what Peek finds. It speaks of no program. -/
import Derived.Test.YtogmkbhbmmgidaaSk
namespace Go.Sl
open Go Go.RowKit
namespace ShelfM
theorem number_inj {S : ShelfM} (hw : S.WF) {a b : PlaceM} (ha : 0 ≤ S.number a) (hd : a.disk = b.disk) (h : S.number b = S.number a) : b = a := by
  obtain ⟨_, a1, a2, a3, a4, a5, _⟩ := number_lt hw ha
  obtain ⟨_, b1, b2, b3, b4, b5, _⟩ := number_lt hw (a := b) (by omega)
  have := hw.cfg.log; have := hw.cfg.image; have := hw.cfg.rows
  rw [a5, b5] at h
  have key : b.area = a.area ∧ b.index = a.index := by
    unfold CfgM.size at a4 b4
    unfold CfgM.base at h
    rcases (show a.area = 1 ∨ a.area = 2 ∨ a.area = 3 ∨ a.area = 4 by omega) with e | e | e | e <;> rcases (show b.area = 1 ∨ b.area = 2 ∨ b.area = 3 ∨ b.area = 4 by omega) with f | f | f | f <;>
      simp [e, f] at a4 b4 h ⊢ <;> omega
  cases a; cases b; simp at hd key ⊢; exact ⟨hd.symm, key⟩
theorem peek_in {S : ShelfM} (hw : S.WF) {b : PlaceM} (hb : 0 ≤ S.number b) : S.peek b = if S.state b.disk = 1 then ((S.disk b.disk).content (S.number b).toNat, true) else ([], false) := by
  unfold peek
  rw [if_neg (by omega)]
  by_cases h1 : S.state b.disk = 1
  · rw [if_pos h1, if_pos h1]
    have hn := disk_n hw h1
    have := (number_lt hw hb).2.2.2.2.2.2
    unfold DiskM.read
    rw [if_pos (DiskM.has_of hb (by rw [hn]; exact this))]
    rfl
  · rw [if_neg h1, if_neg h1]
theorem write_peek {S : ShelfM} (hw : S.WF) (hf : S.fused = false) (harm : ∀ d, S.state d = 1 → (S.disk d).armed = fun _ => none) (a : PlaceM) {t : List UInt8} (ht : t.length = 64) (b : PlaceM) (hb : 0 ≤ S.number b) :
    (S.write a t).1.peek b = (if b = a ∧ (S.write a t).2 = 0 then t else (S.peek b).1, decide (S.state b.disk = 1)) := by
  have hpk : S.peek b = ((S.peek b).1, decide (S.state b.disk = 1)) := by
    rw [peek_in hw hb]
    split
    · simp [*]
    · simp [*]
  by_cases h0 : S.number a < 0
  · have e : S.write a t = (S, 1) := by unfold write; rw [if_pos (.inl h0)]
    rw [e, if_neg (by simp)]; exact hpk
  by_cases hof : S.off = true
  · have e : S.write a t = (S, 14) := by unfold write step; rw [if_neg (by simp [h0, ht]), if_pos hof]
    rw [e, if_neg (by simp)]; exact hpk
  by_cases h1 : S.state a.disk = 1
  case neg =>
    have e : S.write a t = (S, 15) := by unfold write step; rw [if_neg (by simp [h0, ht]), if_neg hof, if_pos h1]
    rw [e, if_neg (by simp)]; exact hpk
  obtain ⟨d1, d2⟩ := state_in hw (d := a.disk) (by rw [h1]; decide)
  have hn := disk_n hw h1
  have hna := (number_lt hw (by omega : 0 ≤ S.number a)).2.2.2.2.2.2
  obtain ⟨n, hne⟩ := Int.eq_ofNat_of_zero_le (by omega : 0 ≤ S.number a)
  have e : S.write a t = (S.setDisk a.disk { S.disk a.disk with cache := fupd (S.disk a.disk).cache n (some t) }, 0) := by
    unfold write
    rw [if_neg (by simp [h0, ht]), step_run (by simpa using hof) h1 hf, hne, DiskM.write_ok (by omega) ht (by rw [harm _ h1])]
  have hw' : (S.setDisk a.disk { S.disk a.disk with cache := fupd (S.disk a.disk).cache n (some t) }).WF := hw.setDisk (by rw [h1]; decide) rfl
  rw [e]
  simp only [and_true]
  rw [peek_in hw' (by rw [setDisk_number b d1 d2]; exact hb), setDisk_number b d1 d2, setDisk_state d1 d2, setDisk_disk d1 d2]
  by_cases hb1 : S.state b.disk = 1
  case neg =>
    rw [if_neg hb1]
    have hne : b ≠ a := fun h => hb1 (by rw [h]; exact h1)
    rw [if_neg hne, hpk, peek_in hw hb, if_neg hb1]
    simp [hb1]
  rw [if_pos hb1]
  by_cases hd : b.disk = a.disk
  · rw [if_pos hd]
    by_cases hba : b = a
    · subst hba
      rw [if_pos rfl, hne]
      simp [DiskM.content, fupd, hb1]
    · have hnn : S.number b ≠ S.number a := fun h => hba (number_inj hw (by omega) hd.symm h)
      rw [if_neg hba, peek_in hw hb, if_pos hb1, hd]
      simp only [DiskM.content, fupd]
      rw [if_neg (by omega)]
      simp [hd ▸ hb1]
  · rw [if_neg hd, if_neg (fun h => hd (by rw [h])), peek_in hw hb, if_pos hb1]
    simp [hb1]
theorem write_state {S : ShelfM} (hw : S.WF) (hf : S.fused = false) (a : PlaceM) (t : List UInt8) (d : Int) : (S.write a t).1.state d = S.state d := by
  unfold write
  split
  · rfl
  · unfold step
    split; rfl
    split; rfl
    rename_i h1 h2
    rw [if_neg (by simp [hf])]
    obtain ⟨d1, d2⟩ := state_in hw (d := a.disk) (by omega)
    exact setDisk_state d1 d2
theorem cutBays_armed : ∀ (l : List BayM) (p : List Int) (j : Nat) (b : BayM), (cutBays l p)[j]? = some b → b.state = 1 → b.disk.armed = fun _ => none
  | [], _, _, _, h, _ => by simp [cutBays] at h
  | c :: r, p, 0, b, h, h1 => by
    unfold cutBays at h
    split at h
    · simp at h; subst h; rfl
    · rename_i hc; simp at h; subst h; exact absurd h1 hc
  | c :: r, p, j + 1, b, h, h1 => by
    unfold cutBays at h
    split at h
    · rw [List.getElem?_cons_succ] at h; exact cutBays_armed r _ j b h h1
    · rw [List.getElem?_cons_succ] at h; exact cutBays_armed r _ j b h h1
theorem mount_armed (S : ShelfM) (p : List Int) (d : Int) (h : (S.mount p).state d = 1) : ((S.mount p).disk d).armed = fun _ => none := by
  unfold state at h
  unfold disk
  cases hb : (S.mount p).bay d with
  | none => rw [hb] at h; simp at h
  | some b =>
    rw [hb] at h
    exact cutBays_armed S.bays p d.toNat b (bay_some.1 hb).2 h
end ShelfM
end Go.Sl
