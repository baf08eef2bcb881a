/- Plain laws of VolumesSeparate and VolumeSnapshotsStay. It speaks of no program. -/
import Derived.Test.YtednjhlkhecihaaGreatDoorWd
import Derived.Test.YtednjhlkhecihaaGreatDoorVn
namespace Go.Vol
open SpaceM

theorem atN_find (l : List PartM) (id : Int) : l[atN l id]? = l.find? fun p => p.id == id := by
  unfold atN
  induction l with
  | nil => rfl
  | cons p r ih =>
    rw [List.findIdx_cons, List.find?_cons]
    cases h : (p.id == id) with
    | true => simp
    | false => simpa using ih
theorem find_erase {l : List PartM} {id : Int} {i : Nat} {p : PartM} (h : l[i]? = some p) (hp : p.id ≠ id) : (l.eraseIdx i).find? (fun q => q.id == id) = l.find? fun q => q.id == id := by
  induction l generalizing i with
  | nil => simp at h
  | cons q r ih =>
    cases i with
    | zero =>
      simp only [List.getElem?_cons_zero, Option.some.injEq] at h
      subst h
      rw [List.eraseIdx_cons_zero, List.find?_cons, show (q.id == id) = false from by simpa using hp]
    | succ i =>
      rw [List.eraseIdx_cons_succ, List.find?_cons, List.find?_cons, ih (by simpa using h)]
theorem find_insert {l : List PartM} {id : Int} {q : PartM} (hq : q.id ≠ id) : ∀ i, (l.insertIdx i q).find? (fun p => p.id == id) = l.find? fun p => p.id == id := by
  induction l with
  | nil =>
    intro i
    cases i with
    | zero => simp [hq]
    | succ i => simp
  | cons a r ih =>
    intro i
    cases i with
    | zero => rw [List.insertIdx_zero, List.find?_cons, show (q.id == id) = false from by simpa using hq]
    | succ i => rw [List.insertIdx_succ_cons, List.find?_cons, List.find?_cons, ih]
theorem find_set {l : List PartM} {id : Int} {i : Nat} {p q : PartM} (h : l[i]? = some p) (hp : p.id ≠ id) (hq : q.id ≠ id) : (l.set i q).find? (fun x => x.id == id) = l.find? fun x => x.id == id := by
  induction l generalizing i with
  | nil => simp at h
  | cons a r ih =>
    cases i with
    | zero =>
      simp only [List.getElem?_cons_zero, Option.some.injEq] at h
      subst h
      rw [List.set_cons_zero, List.find?_cons, List.find?_cons, show (q.id == id) = false from by simpa using hq, show (a.id == id) = false from by simpa using hp]
    | succ i => rw [List.set_cons_succ, List.find?_cons, List.find?_cons, ih (by simpa using h)]
/-- The new one is found. -/
theorem find_new {l : List PartM} {id : Int} {q : PartM} (hl : ∀ p ∈ l, p.id ≠ id) (hq : q.id = id) : ∀ i, i ≤ l.length → (l.insertIdx i q).find? (fun p => p.id == id) = some q := by
  induction l with
  | nil =>
    intro i hi
    obtain rfl : i = 0 := by simpa using hi
    simp [hq]
  | cons a r ih =>
    intro i hi
    cases i with
    | zero => rw [List.insertIdx_zero, List.find?_cons, show (q.id == id) = true from by simpa using hq]
    | succ i =>
      rw [List.insertIdx_succ_cons, List.find?_cons, show (a.id == id) = false from by simpa using hl a (by simp)]
      exact ih (fun p hp => hl p (by simp [hp])) i (by simpa using hi)
theorem find_free {l : List PartM} {id : Int} {p q : PartM} (h : Incr l 0) (hf : l.find? (fun x => x.id == id) = some p) (hq : q.id = (free l : Int)) : q.id ≠ id := by
  have h1 := List.mem_of_find?_eq_some hf
  have h2 : p.id = id := by simpa using List.find?_some hf
  rw [hq, ← h2]
  exact (free_new h p h1).symm

def volF (S : SpaceM) (v : Int) : Option PartM := S.vols.find? fun p => p.id == v
def snapF (S : SpaceM) (v : Int) : Option PartM := S.snaps.find? fun p => p.id == v
/-- What Content and Image answer. -/
def contM (S : SpaceM) (v : Int) : List (Nat × Int) × Int := match volF S v with | none => ([], 12) | some p => (items p.m, 0)
def imageM (S : SpaceM) (v : Int) : List (Nat × Int) × Int := match snapF S v with | none => ([], 12) | some p => (items p.m, 0)
def tenM (S : SpaceM) (v : Int) : Int := match volF S v with | none => -1 | some p => p.tenant
theorem contM_ok {S : SpaceM} {v : Int} (h : (contM S v).2 = 0) : ∃ p, volF S v = some p := by
  unfold contM at h
  cases hv : volF S v with
  | none => rw [hv] at h; simp at h
  | some p => exact ⟨p, rfl⟩

theorem create_vol {S T : SpaceM} {t : Int} {m : MapM} {v : Int} {p : PartM} (hw : S.WF) (hT : (S.create t m).sp = some T) (hv : volF S v = some p) : volF T v = some p := by
  unfold SpaceM.create at hT
  split at hT
  · simp at hT
  · split at hT
    · simp at hT
    · simp only [Option.some.injEq] at hT
      subst hT
      unfold volF at hv ⊢
      exact (find_insert (find_free hw.vols hv rfl) _).trans hv
theorem create_snap {S T : SpaceM} {t : Int} {m : MapM} (hT : (S.create t m).sp = some T) : T.snaps = S.snaps := by
  unfold SpaceM.create at hT
  split at hT
  · simp at hT
  · split at hT
    · simp at hT
    · simp only [Option.some.injEq] at hT
      subst hT; rfl
theorem change_vol {S T : SpaceM} {o v : Int} {ok : Bool} {f : PartM → PartM} (hf : ∀ p, (f p).id = p.id) (ho : o ≠ v) (hT : (S.change o ok f).sp = some T) : volF T v = volF S v := by
  unfold SpaceM.change at hT
  split at hT
  · simp at hT
  · rename_i q hq
    split at hT
    · simp only [Option.some.injEq] at hT
      subst hT
      have h := atN_some hq
      exact find_set hq (by rw [h]; exact ho) (by rw [hf, h]; exact ho)
    · simp at hT
theorem change_snap {S T : SpaceM} {o : Int} {ok : Bool} {f : PartM → PartM} (hT : (S.change o ok f).sp = some T) : T.snaps = S.snaps := by
  unfold SpaceM.change at hT
  split at hT
  · simp at hT
  · split at hT
    · simp only [Option.some.injEq] at hT
      subst hT; rfl
    · simp at hT
theorem delete_vol {S T : SpaceM} {o v : Int} (ho : o ≠ v) (hT : (S.delete o).sp = some T) : volF T v = volF S v := by
  unfold SpaceM.delete at hT
  split at hT
  · simp at hT
  · rename_i q hq
    simp only [Option.some.injEq] at hT
    subst hT
    exact find_erase hq (by rw [atN_some hq]; exact ho)
theorem delete_snap {S T : SpaceM} {o : Int} (hT : (S.delete o).sp = some T) : T.snaps = S.snaps := by
  unfold SpaceM.delete at hT
  split at hT
  · simp at hT
  · simp only [Option.some.injEq] at hT
    subst hT; rfl
theorem snapshot_vol {S T : SpaceM} {o : Int} (hT : (S.snapshot o).sp = some T) : T.vols = S.vols := by
  unfold SpaceM.snapshot at hT
  split at hT
  · simp at hT
  · split at hT
    · simp at hT
    · simp only [Option.some.injEq] at hT
      subst hT; rfl
theorem snapshot_snap {S T : SpaceM} {o v : Int} {p : PartM} (hw : S.WF) (hT : (S.snapshot o).sp = some T) (hv : snapF S v = some p) : snapF T v = some p := by
  unfold SpaceM.snapshot at hT
  split at hT
  · simp at hT
  · split at hT
    · simp at hT
    · simp only [Option.some.injEq] at hT
      subst hT
      unfold snapF at hv ⊢
      exact (find_insert (find_free hw.snaps hv rfl) _).trans hv
/-- A new snapshot maps what its volume maps. -/
theorem snapshot_new {S T : SpaceM} {o : Int} {p : PartM} (hw : S.WF) (hT : (S.snapshot o).sp = some T) (hv : volF S o = some p) : ∃ q, snapF T (S.snapshot o).id = some q ∧ q.m = p.m := by
  unfold volF at hv
  rw [← atN_find] at hv
  unfold SpaceM.snapshot at hT ⊢
  rw [hv] at hT ⊢
  simp only at hT ⊢
  split at hT
  · simp at hT
  · rename_i h
    rw [if_neg h]
    simp only [Option.some.injEq] at hT
    subst hT
    exact ⟨_, find_new (free_new hw.snaps) rfl _ (free_le hw.snaps), rfl⟩
theorem drop_vol {S T : SpaceM} {o : Int} (hT : (S.drop o).sp = some T) : T.vols = S.vols := by
  unfold SpaceM.drop at hT
  split at hT
  · simp at hT
  · simp only [Option.some.injEq] at hT
    subst hT; rfl
theorem drop_snap {S T : SpaceM} {o v : Int} (ho : o ≠ v) (hT : (S.drop o).sp = some T) : snapF T v = snapF S v := by
  unfold SpaceM.drop at hT
  split at hT
  · simp at hT
  · rename_i q hq
    simp only [Option.some.injEq] at hT
    subst hT
    exact find_erase hq (by rw [atN_some hq]; exact ho)
/-- The operations that turn a volume. -/
def touch (o : VOp) (v : Int) : Prop := o.a = v ∧ (o.d = 2 ∨ o.d = 3 ∨ o.d = 4 ∨ o.d = 5 ∨ o.d = 9)
theorem doM_vol {S : SpaceM} {o : VOp} {v : Int} {p : PartM} (hw : S.WF) (h : ¬ touch o v) (hv : volF S v = some p) : volF (doM S o) v = some p := by
  unfold doM
  cases hT : (stepM S o).sp with
  | none => exact hv
  | some T =>
    simp only
    unfold touch at h
    unfold stepM at hT
    split at hT
    · exact create_vol hw hT hv
    split at hT
    · exact (delete_vol (by omega) hT).trans hv
    split at hT
    · exact (change_vol (f := fun p => { p with tenant := o.b }) (fun _ => rfl) (by omega) hT).trans hv
    split at hT
    · exact (change_vol (f := fun p => { p with m := upd p.m o.b.toNat (some o.c) }) (fun _ => rfl) (by omega) hT).trans hv
    split at hT
    · exact (change_vol (f := fun p => { p with m := upd p.m o.b.toNat none }) (fun _ => rfl) (by omega) hT).trans hv
    split at hT
    · unfold volF; rw [snapshot_vol hT]; exact hv
    split at hT
    · unfold volF; rw [drop_vol hT]; exact hv
    split at hT
    · unfold SpaceM.clone at hT
      split at hT
      · simp at hT
      · exact create_vol hw hT hv
    split at hT
    · unfold SpaceM.restore at hT
      split at hT
      · simp at hT
      · rename_i q hq
        exact (change_vol (f := fun p => { p with m := q.m }) (fun _ => rfl) (by omega) hT).trans hv
    · simp only [Option.some.injEq] at hT
      subst hT; exact hv
theorem doM_snap {S : SpaceM} {o : VOp} {v : Int} {p : PartM} (hw : S.WF) (h : ¬ (o.d = 7 ∧ o.a = v)) (hv : snapF S v = some p) : snapF (doM S o) v = some p := by
  unfold doM
  cases hT : (stepM S o).sp with
  | none => exact hv
  | some T =>
    simp only
    have hs : T.snaps = S.snaps → snapF T v = some p := fun h => by unfold snapF; rw [h]; exact hv
    unfold stepM at hT
    split at hT
    · exact hs (create_snap hT)
    split at hT
    · exact hs (delete_snap hT)
    split at hT
    · exact hs (change_snap hT)
    split at hT
    · exact hs (change_snap hT)
    split at hT
    · exact hs (change_snap hT)
    split at hT
    · exact snapshot_snap hw hT hv
    split at hT
    · exact (drop_snap (by omega) hT).trans hv
    split at hT
    · unfold SpaceM.clone at hT
      split at hT
      · simp at hT
      · exact hs (create_snap hT)
    split at hT
    · unfold SpaceM.restore at hT
      split at hT
      · simp at hT
      · exact hs (change_snap hT)
    · simp only [Option.some.injEq] at hT
      subst hT; exact hv
/-- VolumesSeparate. -/
theorem separate {S : SpaceM} {o : VOp} {v : Int} (hw : S.WF) (h : ¬ touch o v) (hv : (contM S v).2 = 0) : contM (doM S o) v = contM S v ∧ tenM (doM S o) v = tenM S v := by
  obtain ⟨p, hp⟩ := contM_ok hv
  have hq := doM_vol hw h hp
  unfold contM tenM
  rw [hp, hq]
  exact ⟨rfl, rfl⟩
end Go.Vol
