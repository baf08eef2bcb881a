/- The plain law of VolumeLastWrite. It speaks of no program. -/
import Derived.Test.YtednjhlkhecihaaDoorVt
namespace Go.Vol
open SpaceM

theorem atN_set {l : List PartM} {id : Int} {p q : PartM} (h : l[atN l id]? = some p) (hq : q.id = id) : atN (l.set (atN l id) q) id = atN l id := by
  have hlt : atN l id < l.length := (List.getElem?_eq_some_iff.1 h).1
  unfold atN at *
  rw [List.findIdx_eq (by simpa using hlt)]
  refine ⟨by rw [List.getElem_set_self]; simp [hq], fun j hj => ?_⟩
  rw [List.getElem_set_ne (by omega)]
  exact List.not_of_lt_findIdx hj
/-- What change does to Get. -/
theorem change_get {S T : SpaceM} {v : Int} {ok : Bool} {f : PartM → PartM} (hf : ∀ p, (f p).id = p.id) (h : (S.change v ok f).sp = some T) (b : Int) :
    ∃ p, S.vols[atN S.vols v]? = some p ∧ S.get v b = getM p.m b ∧ T.get v b = getM (f p).m b := by
  unfold change at h
  split at h
  · simp at h
  · rename_i p hp
    split at h
    · injection h with h
      subst h
      have hid := atN_some hp
      have hlt : atN S.vols v < S.vols.length := (List.getElem?_eq_some_iff.1 hp).1
      refine ⟨p, hp, by unfold SpaceM.get; rw [hp], ?_⟩
      unfold SpaceM.get
      rw [atN_set hp (by rw [hf]; exact hid), List.getElem?_set_self hlt]
    · simp at h
theorem getM_upd_other {m : MapM} {b o : Int} {x : Option Int} (h : o ≠ b) (hb : blkB b = true) : getM (upd m b.toNat x) o = getM m o := by
  unfold getM
  by_cases ho : blkB o = false
  · rw [if_pos ho, if_pos ho]
  · rw [if_neg ho, if_neg ho]
    have h1 := blkB_iff.1 (by simpa using ho)
    have h2 := blkB_iff.1 hb
    unfold upd
    rw [if_neg (by omega)]
theorem getM_upd_same {m : MapM} {b : Int} {x : Option Int} (hb : blkB b = true) : getM (upd m b.toNat x) b = match x with | none => (0, 12) | some c => (c, 0) := by
  unfold getM upd
  rw [if_neg (by simp [hb]), if_pos rfl]
  cases x <;> rfl
theorem change_ok {S T : SpaceM} {v : Int} {ok : Bool} {f : PartM → PartM} (h : (S.change v ok f).sp = some T) : ok = true := by
  unfold change at h
  split at h
  · simp at h
  · split at h
    · assumption
    · simp at h
theorem last_write {S M T : SpaceM} {v b c o : Int} (hm : (S.map v b c).sp = some M) (hu : (S.unmap v b).sp = some T) (ho : o ≠ b) :
    M.get v b = (c, 0) ∧ T.get v b = (0, 12) ∧ M.get v o = S.get v o ∧ T.get v o = S.get v o := by
  have hb := change_ok hu
  refine ⟨?_, ?_, ?_, ?_⟩
  · obtain ⟨p, _, _, h⟩ := change_get (f := fun p => { p with m := upd p.m b.toNat (some c) }) (fun _ => rfl) hm b
    rw [h, getM_upd_same hb]
  · obtain ⟨p, _, _, h⟩ := change_get (f := fun p => { p with m := upd p.m b.toNat none }) (fun _ => rfl) hu b
    rw [h, getM_upd_same hb]
  · obtain ⟨p, _, h1, h⟩ := change_get (f := fun p => { p with m := upd p.m b.toNat (some c) }) (fun _ => rfl) hm o
    rw [h, h1, getM_upd_other ho hb]
  · obtain ⟨p, _, h1, h⟩ := change_get (f := fun p => { p with m := upd p.m b.toNat none }) (fun _ => rfl) hu o
    rw [h, h1, getM_upd_other ho hb]
/-- Where Map succeeds Unmap does. -/
theorem map_unmap {S M : SpaceM} {v b c : Int} (hm : (S.map v b c).sp = some M) : ∃ T, (S.unmap v b).sp = some T := by
  have hb := change_ok hm
  unfold SpaceM.map SpaceM.change at hm
  unfold SpaceM.unmap SpaceM.change
  split at hm
  · simp at hm
  · rename_i p hp
    simp only [Bool.and_eq_true] at hb
    rw [hb.1]
    exact ⟨_, rfl⟩
end Go.Vol
