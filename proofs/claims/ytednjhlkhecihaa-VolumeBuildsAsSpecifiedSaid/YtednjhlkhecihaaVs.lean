/- The plain model of a space of volumes and snapshots, and how it lies in memory. It speaks of no program. -/
import Derived.Test.YtednjhlkhecihaaVm
namespace Go.Vol
open Go Go.RowKit

structure PartM where
  id : Int
  tenant : Int
  src : Int
  m : MapM
structure SpaceM where
  vols : List PartM
  snaps : List PartM
structure ResM where
  sp : Option SpaceM
  id : Int
  e : Int

def tenB (t : Int) : Bool := decide (0 ≤ t) && decide (t < 16)
def blkB (b : Int) : Bool := decide (0 ≤ b) && decide (b < 4096)
def chkB (c : Int) : Bool := decide (0 ≤ c) && decide (c < 2147483648)
def atN (l : List PartM) (id : Int) : Nat := l.findIdx fun p => p.id == id
def freeF : List PartM → Nat → Nat
  | [], k => k
  | p :: r, k => if p.id = (k : Int) then freeF r (k + 1) else k
def free (l : List PartM) : Nat := freeF l 0
def empty : MapM := fun _ => none

namespace SpaceM
def new : SpaceM := ⟨[], []⟩
def create (S : SpaceM) (t : Int) (m : MapM) : ResM :=
  if tenB t = false then ⟨none, 0, 1⟩ else if 64 ≤ S.vols.length then ⟨none, 0, 2⟩
  else ⟨some { S with vols := S.vols.insertIdx (free S.vols) ⟨free S.vols, t, 0, m⟩ }, free S.vols, 0⟩
def delete (S : SpaceM) (v : Int) : ResM :=
  match S.vols[atN S.vols v]? with
  | none => ⟨none, 0, 12⟩
  | some _ => ⟨some { S with vols := S.vols.eraseIdx (atN S.vols v) }, 0, 0⟩
def change (S : SpaceM) (v : Int) (ok : Bool) (f : PartM → PartM) : ResM :=
  match S.vols[atN S.vols v]? with
  | none => ⟨none, 0, 12⟩
  | some p => if ok = true then ⟨some { S with vols := S.vols.set (atN S.vols v) (f p) }, 0, 0⟩ else ⟨none, 0, 1⟩
def give (S : SpaceM) (v t : Int) : ResM := S.change v (tenB t) fun p => { p with tenant := t }
def map (S : SpaceM) (v b c : Int) : ResM := S.change v (blkB b && chkB c) fun p => { p with m := upd p.m b.toNat (some c) }
def unmap (S : SpaceM) (v b : Int) : ResM := S.change v (blkB b) fun p => { p with m := upd p.m b.toNat none }
def snapshot (S : SpaceM) (v : Int) : ResM :=
  match S.vols[atN S.vols v]? with
  | none => ⟨none, 0, 12⟩
  | some p => if 256 ≤ S.snaps.length then ⟨none, 0, 2⟩
    else ⟨some { S with snaps := S.snaps.insertIdx (free S.snaps) ⟨free S.snaps, p.tenant, v, p.m⟩ }, free S.snaps, 0⟩
def drop (S : SpaceM) (v : Int) : ResM :=
  match S.snaps[atN S.snaps v]? with
  | none => ⟨none, 0, 12⟩
  | some _ => ⟨some { S with snaps := S.snaps.eraseIdx (atN S.snaps v) }, 0, 0⟩
def clone (S : SpaceM) (s t : Int) : ResM :=
  match S.snaps[atN S.snaps s]? with
  | none => ⟨none, 0, 12⟩
  | some p => S.create t p.m
def restore (S : SpaceM) (v s : Int) : ResM :=
  match S.snaps[atN S.snaps s]? with
  | none => ⟨none, 0, 12⟩
  | some p => S.change v true fun q => { q with m := p.m }
def getM (m : MapM) (b : Int) : Int × Int := if blkB b = false then (0, 1) else match m b.toNat with | none => (0, 12) | some c => (c, 0)
def get (S : SpaceM) (v b : Int) : Int × Int :=
  match S.vols[atN S.vols v]? with
  | none => (0, 12)
  | some p => getM p.m b
def look (S : SpaceM) (v b : Int) : Int × Int :=
  match S.snaps[atN S.snaps v]? with
  | none => (0, 12)
  | some p => getM p.m b
end SpaceM

/-- Increasing ids from a number on. -/
def Incr : List PartM → Int → Prop
  | [], _ => True
  | p :: r, k => k ≤ p.id ∧ Incr r (p.id + 1)
structure PartM.WF (p : PartM) : Prop where
  ten : 0 ≤ p.tenant ∧ p.tenant < 16
  out : ∀ b, 4096 ≤ b → p.m b = none
  chk : ∀ b c, p.m b = some c → 0 ≤ c ∧ c < 2147483648
structure SpaceM.WF (S : SpaceM) : Prop where
  vols : Incr S.vols 0
  snaps : Incr S.snaps 0
  vlt : ∀ p ∈ S.vols, p.id < 64
  slt : ∀ p ∈ S.snaps, p.id < 256
  vp : ∀ p ∈ S.vols, p.WF
  sp : ∀ p ∈ S.snaps, p.WF

theorem Incr.mono {l : List PartM} {j k : Int} (h : Incr l k) (hj : j ≤ k) : Incr l j := by
  cases l with
  | nil => trivial
  | cons p r => exact ⟨Int.le_trans hj h.1, h.2⟩
theorem Incr.le {l : List PartM} : ∀ {k : Int}, Incr l k → ∀ p ∈ l, k ≤ p.id := by
  induction l with
  | nil => intro k _ p hp; simp at hp
  | cons q r ih =>
    intro k h p hp
    rcases List.mem_cons.1 hp with rfl | hp
    · exact h.1
    · have := ih h.2 p hp; have := h.1; omega
theorem Incr.len {l : List PartM} : ∀ {k n : Int}, Incr l k → (∀ p ∈ l, p.id < n) → k ≤ n → (l.length : Int) ≤ n - k := by
  induction l with
  | nil => intro k n _ _ h; simp; omega
  | cons q r ih =>
    intro k n h hn hk
    have h1 := hn q (by simp)
    have := ih h.2 (fun p hp => hn p (by simp [hp])) (by omega)
    have := h.1
    simp; omega
theorem Incr.set {l : List PartM} : ∀ {k : Int} {i : Nat} {p q : PartM}, Incr l k → l[i]? = some p → q.id = p.id → Incr (l.set i q) k := by
  induction l with
  | nil => intro k i p q _ h; simp at h
  | cons a r ih =>
    intro k i p q h hi hq
    cases i with
    | zero => simp at hi; subst hi; exact ⟨by rw [hq]; exact h.1, by rw [hq]; exact h.2⟩
    | succ i => exact ⟨h.1, ih h.2 (by simpa using hi) hq⟩
theorem Incr.erase {l : List PartM} : ∀ {k : Int} {i : Nat}, Incr l k → Incr (l.eraseIdx i) k := by
  induction l with
  | nil => intro k i h; exact h
  | cons a r ih =>
    intro k i h
    cases i with
    | zero => exact h.2.mono (by have := h.1; omega)
    | succ i => exact ⟨h.1, ih h.2⟩
/-- The place and the number of what is put in. -/
theorem freeF_spec {l : List PartM} : ∀ {k : Nat}, Incr l k → ∃ d, freeF l k = k + d ∧ d ≤ l.length ∧ (∀ q : PartM, q.id = ((k + d : Nat) : Int) → Incr (l.insertIdx d q) k) ∧ (∀ p ∈ l, p.id ≠ ((k + d : Nat) : Int)) := by
  induction l with
  | nil => intro k _; exact ⟨0, rfl, Nat.le_refl _, fun q hq => ⟨by rw [hq]; simp, trivial⟩, by simp⟩
  | cons a r ih =>
    intro k h
    unfold freeF
    by_cases hk : a.id = (k : Int)
    · rw [if_pos hk]
      obtain ⟨d, h1, h2, h3, h4⟩ := ih (k := k + 1) (by have := h.2; rw [hk] at this; exact this)
      refine ⟨d + 1, by omega, by simpa using h2, fun q hq => ?_, ?_⟩
      · rw [List.insertIdx_succ_cons]
        refine ⟨h.1, ?_⟩
        rw [hk]
        exact h3 q (by rw [hq]; congr 1; omega)
      · intro p hp
        rcases List.mem_cons.1 hp with rfl | hp
        · rw [hk]; simp; omega
        · have := h4 p hp
          rw [show k + (d + 1) = k + 1 + d by omega]; exact this
    · rw [if_neg hk]
      refine ⟨0, rfl, Nat.zero_le _, fun q hq => ?_, ?_⟩
      · rw [List.insertIdx_zero]
        simp only [Nat.add_zero] at hq
        refine ⟨by omega, ?_⟩
        rw [hq]
        exact ⟨by have := h.1; omega, h.2⟩
      · intro p hp
        simp only [Nat.add_zero]
        rcases List.mem_cons.1 hp with rfl | hp
        · exact hk
        · have := h.2.le p hp; have := h.1; omega
theorem free_le {l : List PartM} (h : Incr l 0) : free l ≤ l.length := by
  obtain ⟨d, h1, h2, _⟩ := freeF_spec (k := 0) h
  unfold free; omega
theorem free_new {l : List PartM} (h : Incr l 0) : ∀ p ∈ l, p.id ≠ (free l : Int) := by
  obtain ⟨d, h1, _, _, h4⟩ := freeF_spec (k := 0) h
  unfold free
  rw [h1]; exact h4
theorem Incr.insert {l : List PartM} (h : Incr l 0) {q : PartM} (hq : q.id = (free l : Int)) : Incr (l.insertIdx (free l) q) 0 := by
  obtain ⟨d, h1, _, h3, _⟩ := freeF_spec (k := 0) h
  unfold free at hq ⊢
  rw [h1, Nat.zero_add] at hq ⊢
  have := h3 q (by rw [hq]; simp)
  exact this
theorem mem_insertIdx_of {α : Type} {l : List α} {i : Nat} {a x : α} (h : x ∈ l.insertIdx i a) : x = a ∨ x ∈ l := by
  by_cases hi : i ≤ l.length
  · rw [List.mem_insertIdx hi] at h; exact h
  · rw [List.insertIdx_of_length_lt (by omega)] at h; exact .inr h

theorem atN_le (l : List PartM) (id : Int) : atN l id ≤ l.length := List.findIdx_le_length
theorem atN_some {l : List PartM} {id : Int} {p : PartM} (h : l[atN l id]? = some p) : p.id = id := by
  obtain ⟨hlt, he⟩ := List.getElem?_eq_some_iff.1 h
  have := List.findIdx_getElem (w := hlt)
  unfold atN at he
  rw [he] at this
  simpa using this

namespace SpaceM
theorem WF.new : SpaceM.new.WF := ⟨trivial, trivial, by simp [SpaceM.new], by simp [SpaceM.new], by simp [SpaceM.new], by simp [SpaceM.new]⟩
theorem WF.vlen {S : SpaceM} (h : S.WF) : S.vols.length ≤ 64 := by have := h.vols.len h.vlt (by omega); omega
theorem WF.slen {S : SpaceM} (h : S.WF) : S.snaps.length ≤ 256 := by have := h.snaps.len h.slt (by omega); omega
theorem tenB_iff {t : Int} : tenB t = true ↔ 0 ≤ t ∧ t < 16 := by unfold tenB; simp
theorem blkB_iff {t : Int} : blkB t = true ↔ 0 ≤ t ∧ t < 4096 := by unfold blkB; simp
theorem chkB_iff {t : Int} : chkB t = true ↔ 0 ≤ t ∧ t < 2147483648 := by unfold chkB; simp
theorem create_wf {S S' : SpaceM} {t : Int} {m : MapM} (h : S.WF) (hm1 : ∀ b, 4096 ≤ b → m b = none) (hm2 : ∀ b c, m b = some c → 0 ≤ c ∧ c < 2147483648) (he : (S.create t m).sp = some S') : S'.WF := by
  unfold create at he
  split at he
  · simp at he
  · split at he
    · simp at he
    · rename_i h1 h2
      simp at he
      subst he
      have hf := free_le h.vols
      have ht : 0 ≤ t ∧ t < 16 := tenB_iff.1 (by simpa using h1)
      refine ⟨h.vols.insert rfl, h.snaps, ?_, h.slt, ?_, h.sp⟩
      · intro p hp
        rcases mem_insertIdx_of hp with rfl | hp
        · show (free S.vols : Int) < 64; omega
        · exact h.vlt p hp
      · intro p hp
        rcases mem_insertIdx_of hp with rfl | hp
        · exact ⟨ht, hm1, hm2⟩
        · exact h.vp p hp
theorem change_wf {S S' : SpaceM} {v : Int} {ok : Bool} {f : PartM → PartM} (h : S.WF) (hf : ∀ p, (f p).id = p.id) (hw : ok = true → ∀ p, p.WF → (f p).WF) (he : (S.change v ok f).sp = some S') : S'.WF := by
  unfold change at he
  split at he
  · simp at he
  · rename_i p hp
    split at he
    · rename_i hok
      simp at he
      subst he
      have hm := List.mem_of_getElem? hp
      refine ⟨h.vols.set hp (hf p), h.snaps, ?_, h.slt, ?_, h.sp⟩
      · intro q hq
        rcases List.mem_or_eq_of_mem_set hq with hq | rfl
        · exact h.vlt q hq
        · rw [hf]; exact h.vlt p hm
      · intro q hq
        rcases List.mem_or_eq_of_mem_set hq with hq | rfl
        · exact h.vp q hq
        · exact hw hok p (h.vp p hm)
    · simp at he
theorem give_wf {S S' : SpaceM} {v t : Int} (h : S.WF) (he : (S.give v t).sp = some S') : S'.WF :=
  change_wf (f := fun p => { p with tenant := t }) h (fun _ => rfl) (fun hok _ hp => ⟨tenB_iff.1 hok, hp.out, hp.chk⟩) he
theorem map_wf {S S' : SpaceM} {v b c : Int} (h : S.WF) (he : (S.map v b c).sp = some S') : S'.WF :=
  change_wf (f := fun p => { p with m := upd p.m b.toNat (some c) }) h (fun _ => rfl) (fun hok p hp => by
    simp only [Bool.and_eq_true] at hok
    have h1 := blkB_iff.1 hok.1
    have h2 := chkB_iff.1 hok.2
    refine ⟨hp.ten, fun i hi => ?_, fun i x hx => ?_⟩
    · show upd p.m b.toNat (some c) i = none
      unfold upd; rw [if_neg (by omega)]; exact hp.out i hi
    · have hx' : upd p.m b.toNat (some c) i = some x := hx
      unfold upd at hx'
      split at hx'
      · cases hx'; exact h2
      · exact hp.chk i x hx') he
theorem unmap_wf {S S' : SpaceM} {v b : Int} (h : S.WF) (he : (S.unmap v b).sp = some S') : S'.WF :=
  change_wf (f := fun p => { p with m := upd p.m b.toNat none }) h (fun _ => rfl) (fun hok p hp => by
    refine ⟨hp.ten, fun i hi => ?_, fun i x hx => ?_⟩
    · show upd p.m b.toNat none i = none
      unfold upd; split; rfl; exact hp.out i hi
    · have hx' : upd p.m b.toNat none i = some x := hx
      unfold upd at hx'
      split at hx'
      · cases hx'
      · exact hp.chk i x hx') he
theorem delete_wf {S S' : SpaceM} {v : Int} (h : S.WF) (he : (S.delete v).sp = some S') : S'.WF := by
  unfold delete at he
  split at he
  · simp at he
  · simp at he; subst he
    exact ⟨h.vols.erase, h.snaps, fun p hp => h.vlt p (List.mem_of_mem_eraseIdx hp), h.slt, fun p hp => h.vp p (List.mem_of_mem_eraseIdx hp), h.sp⟩
theorem drop_wf {S S' : SpaceM} {v : Int} (h : S.WF) (he : (S.drop v).sp = some S') : S'.WF := by
  unfold drop at he
  split at he
  · simp at he
  · simp at he; subst he
    exact ⟨h.vols, h.snaps.erase, h.vlt, fun p hp => h.slt p (List.mem_of_mem_eraseIdx hp), h.vp, fun p hp => h.sp p (List.mem_of_mem_eraseIdx hp)⟩
theorem snapshot_wf {S S' : SpaceM} {v : Int} (h : S.WF) (he : (S.snapshot v).sp = some S') : S'.WF := by
  unfold snapshot at he
  split at he
  · simp at he
  · rename_i p hp
    split at he
    · simp at he
    · rename_i h2
      simp at he; subst he
      have hf := free_le h.snaps
      have hm := h.vp p (List.mem_of_getElem? hp)
      refine ⟨h.vols, h.snaps.insert rfl, h.vlt, ?_, h.vp, ?_⟩
      · intro q hq
        rcases mem_insertIdx_of hq with rfl | hq
        · show (free S.snaps : Int) < 256; omega
        · exact h.slt q hq
      · intro q hq
        rcases mem_insertIdx_of hq with rfl | hq
        · exact ⟨hm.ten, hm.out, hm.chk⟩
        · exact h.sp q hq
theorem clone_wf {S S' : SpaceM} {s t : Int} (h : S.WF) (he : (S.clone s t).sp = some S') : S'.WF := by
  unfold clone at he
  split at he
  · simp at he
  · rename_i p hp
    have hm := h.sp p (List.mem_of_getElem? hp)
    exact create_wf h hm.out hm.chk he
theorem restore_wf {S S' : SpaceM} {v s : Int} (h : S.WF) (he : (S.restore v s).sp = some S') : S'.WF := by
  unfold restore at he
  split at he
  · simp at he
  · rename_i p hp
    have hm := h.sp p (List.mem_of_getElem? hp)
    exact change_wf (f := fun q => { q with m := p.m }) h (fun _ => rfl) (fun _ q hq => ⟨hq.ten, hm.out, hm.chk⟩) he
end SpaceM
end Go.Vol
