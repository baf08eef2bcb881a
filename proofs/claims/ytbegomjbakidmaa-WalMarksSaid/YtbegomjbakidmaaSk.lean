/- Plain laws on the model of a shelf. It speaks of no program. -/
import Derived.Test.YtbegomjbakidmaaSm
namespace Go.Sl
open Go Go.RowKit
namespace ShelfM
theorem new_bay (c : CfgM) {d : Int} (h0 : 0 ≤ d) (h1 : d < c.disks) : (new c).bay d = some ⟨DiskM.new c.sectors, 1⟩ := by
  rw [bay_some]
  refine ⟨h0, ?_⟩
  show (List.replicate c.disks.toNat _)[d.toNat]? = _
  rw [List.getElem?_replicate, if_pos (by omega)]
theorem bay_state {S : ShelfM} {d : Int} {b : BayM} (h : S.bay d = some b) : S.state d = b.state := by unfold state; rw [h]
theorem bay_disk {S : ShelfM} {d : Int} {b : BayM} (h : S.bay d = some b) : S.disk d = b.disk := by unfold disk; rw [h]
theorem setDisk_bay {S : ShelfM} {d e : Int} {D : DiskM} (h1 : 0 ≤ d) (h2 : d < (S.bays.length : Int)) : (S.setDisk d D).bay e = if e = d then some ⟨D, S.state d⟩ else S.bay e := setBay_state h1 h2
theorem setDisk_state {S : ShelfM} {d e : Int} {D : DiskM} (h1 : 0 ≤ d) (h2 : d < (S.bays.length : Int)) : (S.setDisk d D).state e = S.state e := by
  unfold state
  rw [setDisk_bay h1 h2]
  by_cases he : e = d
  · subst he; rw [if_pos rfl]; rfl
  · rw [if_neg he]
theorem setDisk_disk {S : ShelfM} {d e : Int} {D : DiskM} (h1 : 0 ≤ d) (h2 : d < (S.bays.length : Int)) : (S.setDisk d D).disk e = if e = d then D else S.disk e := by
  unfold disk
  rw [setDisk_bay h1 h2]
  by_cases he : e = d
  · subst he; rw [if_pos rfl, if_pos rfl]
  · rw [if_neg he, if_neg he]
theorem setDisk_number {S : ShelfM} {d : Int} {D : DiskM} (a : PlaceM) (h1 : 0 ≤ d) (h2 : d < (S.bays.length : Int)) : (S.setDisk d D).number a = S.number a := by
  unfold number
  rw [setDisk_state h1 h2]
  rfl
theorem setDisk_twice {S : ShelfM} {d : Int} {D E : DiskM} (h1 : 0 ≤ d) (h2 : d < (S.bays.length : Int)) : (S.setDisk d D).setDisk d E = S.setDisk d E := by
  unfold setDisk
  have : (S.setBay d ⟨D, S.state d⟩).state d = S.state d := setDisk_state h1 h2
  rw [this]
  unfold setBay
  simp only [List.set_set]
theorem step_run {S : ShelfM} {d : Int} {f : DiskM → DiskM} (h1 : S.off = false) (h2 : S.state d = 1) (h3 : S.fused = false) : S.step d f = (S.setDisk d (f (S.disk d)), 0) := by
  unfold step
  rw [if_neg (by simp [h1]), if_neg (by simp [h2]), if_neg (by simp [h3])]

theorem cutBays_at : ∀ (l : List BayM) (picks : List Int) (k : Nat) (b : BayM), l[k]? = some b → b.state = 1 → (∀ j, j < k → ∀ x, l[j]? = some x → x.state = 1 → x.disk.pending = []) →
    (cutBays l picks)[k]? = some ⟨b.disk.cut (picks.take b.disk.pending.length), 1⟩
  | [], _, _, _, h, _, _ => by simp at h
  | c :: r, picks, 0, b, h, h1, _ => by
    simp at h; subst h
    show (if c.state = 1 then _ else _)[0]? = _
    rw [if_pos h1]; rfl
  | c :: r, picks, k + 1, b, h, h1, h2 => by
    have hr : r[k]? = some b := by simpa using h
    have h2' : ∀ j, j < k → ∀ x, r[j]? = some x → x.state = 1 → x.disk.pending = [] := fun j hj x hx => h2 (j + 1) (by omega) x (by simpa using hx)
    show (if c.state = 1 then _ else _)[k + 1]? = _
    split
    · rename_i hc
      have hp := h2 0 (by omega) c rfl hc
      rw [hp, List.length_nil, List.drop_zero, List.getElem?_cons_succ]
      exact cutBays_at r picks k b hr h1 h2'
    · rw [List.getElem?_cons_succ]
      exact cutBays_at r picks k b hr h1 h2'
end ShelfM

/-! ### the torn write -/
namespace DiskM
theorem has_of {D : DiskM} {n : Int} (h0 : 0 ≤ n) (h1 : n < (D.n : Int)) : D.has n = true := has_iff.2 ⟨h0, h1⟩
theorem write_ok {D : DiskM} {n : Nat} {s : List UInt8} (h : n < D.n) (hs : s.length = 64) (ha : D.armed n = none) : D.write (n : Int) s = ({ D with cache := fupd D.cache n (some s) }, 0) := by
  unfold write
  rw [if_pos ⟨has_of (by omega) (by omega), hs⟩]
  unfold put
  rw [Int.toNat_natCast, ha]
theorem pending_one {D : DiskM} {n : Nat} {s : List UInt8} (h : n < D.n) (hc : ∀ i, D.cache i = none) : ({ D with cache := fupd D.cache n (some s) } : DiskM).pending = [n] := by
  unfold pending
  simp only
  have e : (fun i => (fupd D.cache n (some s) i).isSome) = fun i => decide (i = n) := by
    funext i; unfold fupd; split
    · simp [*]
    · simp [*]
  rw [e]
  obtain ⟨m, hm⟩ : ∃ m, D.n = n + (m + 1) := ⟨D.n - n - 1, by omega⟩
  rw [hm, List.range_add, List.filter_append, List.range_succ_eq_map, List.map_cons, List.filter_cons]
  rw [List.filter_eq_nil_iff.2 (by intro x hx; have := List.mem_range.1 hx; simp; omega)]
  rw [if_pos (by simp)]
  rw [List.filter_eq_nil_iff.2 (by intro x hx; simp at hx; obtain ⟨y, _, rfl⟩ := hx; simp)]
  simp
end DiskM

namespace ShelfM
/-- What TornWrites does to the shelf. -/
theorem torn_law {c : CfgM} (hc : c.WF) (hwf : (new c).WF) {a : PlaceM} {x y : List UInt8} (hx : x.length = 64) (hy : y.length = 64) (hw : ((new c).write a x).2 = 0) (pick : Int) (hn : ((DiskM.new c.sectors).n : Int) = c.sectors) :
    (((new c).write a x).1.flush a.disk).2 = 0 ∧ ((((new c).write a x).1.flush a.disk).1.write a y).2 = 0 ∧
      (((((new c).write a x).1.flush a.disk).1.write a y).1.mount [pick]).read a = (y.take (DiskM.clamp pick) ++ x.drop (DiskM.clamp pick), 0) := by
  have h0 : ¬ ((new c).number a < 0 ∨ x.length ≠ 64) := by
    intro h
    unfold write at hw
    rw [if_pos h] at hw
    simp at hw
  have hnum : 0 ≤ (new c).number a := by omega
  obtain ⟨k1, _, _, _, _, _, k2⟩ := number_lt hwf hnum
  have hin := state_in hwf k1
  have hlen : (new c).bays.length = c.disks.toNat := by simp [new]
  have hd := hc.disks
  obtain ⟨hd1, hd2⟩ := hin
  have hb := new_bay c hd1 (by rw [hlen] at hd2; omega)
  have hst : (new c).state a.disk = 1 := bay_state hb
  have hdk : (new c).disk a.disk = DiskM.new c.sectors := bay_disk hb
  obtain ⟨n, hne⟩ := Int.eq_ofNat_of_zero_le hnum
  have hnl : n < (DiskM.new c.sectors).n := by
    have : (new c).number a < c.sectors := k2
    rw [hne] at this; omega
  -- the first write
  have e1 : (new c).write a x = ((new c).setDisk a.disk { DiskM.new c.sectors with cache := fupd (DiskM.new c.sectors).cache n (some x) }, 0) := by
    unfold write
    rw [if_neg h0, step_run rfl hst rfl, hdk, hne, DiskM.write_ok hnl hx rfl]
  rw [e1]
  simp only
  generalize hD1 : ({ DiskM.new c.sectors with cache := fupd (DiskM.new c.sectors).cache n (some x) } : DiskM) = D1
  have st1 : ((new c).setDisk a.disk D1).state a.disk = 1 := by rw [setDisk_state hd1 hd2, hst]
  have dk1 : ((new c).setDisk a.disk D1).disk a.disk = D1 := by rw [setDisk_disk hd1 hd2, if_pos rfl]
  have e2 : ((new c).setDisk a.disk D1).flush a.disk = ((new c).setDisk a.disk D1.flush, 0) := by
    unfold flush
    rw [if_neg (by rw [st1]; decide), step_run rfl st1 rfl, dk1, setDisk_twice hd1 hd2]
  rw [e2]
  simp only
  have hD2n : D1.flush.n = (DiskM.new c.sectors).n := by rw [← hD1]; rfl
  have hD2a : D1.flush.armed = fun _ => none := by rw [← hD1]; rfl
  have hD2c : D1.flush.cache = fun _ => none := rfl
  have hD2d : D1.flush.dur n = x := by rw [← hD1]; show (fupd _ n (some x) n).getD _ = x; simp [fupd]
  generalize D1.flush = D2 at *
  have st2 : ((new c).setDisk a.disk D2).state a.disk = 1 := by rw [setDisk_state hd1 hd2, hst]
  have dk2 : ((new c).setDisk a.disk D2).disk a.disk = D2 := by rw [setDisk_disk hd1 hd2, if_pos rfl]
  have e3 : ((new c).setDisk a.disk D2).write a y = ((new c).setDisk a.disk { D2 with cache := fupd D2.cache n (some y) }, 0) := by
    unfold write
    rw [setDisk_number a hd1 hd2, if_neg (by omega), step_run rfl st2 rfl, dk2, hne, DiskM.write_ok (by rw [hD2n]; exact hnl) hy (by rw [hD2a]), setDisk_twice hd1 hd2]
  rw [e3]
  refine ⟨by trivial, by first | rfl | trivial, ?_⟩
  simp only
  have hp := DiskM.pending_one (D := D2) (s := y) (by rw [hD2n]; exact hnl) (fun i => by rw [hD2c])
  generalize hD3 : ({ D2 with cache := fupd D2.cache n (some y) } : DiskM) = D3 at *
  have hbay : ((new c).setDisk a.disk D3).bays[a.disk.toNat]? = some ⟨D3, 1⟩ := by
    have := bay_some.1 ((setDisk_bay (S := new c) (D := D3) (e := a.disk) hd1 hd2).trans (if_pos rfl))
    rw [hst] at this; exact this.2
  have hcut := cutBays_at ((new c).setDisk a.disk D3).bays [pick] a.disk.toNat ⟨D3, 1⟩ hbay rfl (by
    intro j hj z hz _
    have : ((new c).bays.set a.disk.toNat ⟨D3, (new c).state a.disk⟩)[j]? = some z := hz
    rw [List.getElem?_set, if_neg (by omega)] at this
    have hz2 := List.eq_of_mem_replicate (List.mem_of_getElem? this)
    rw [hz2]
    simp [DiskM.pending, DiskM.new])
  simp only at hcut
  rw [hp] at hcut
  have hb4 : (((new c).setDisk a.disk D3).mount [pick]).bay a.disk = some ⟨D3.cut [pick], 1⟩ := bay_some.2 ⟨hd1, hcut⟩
  have st4 : (((new c).setDisk a.disk D3).mount [pick]).state a.disk = 1 := bay_state hb4
  have dk4 : (((new c).setDisk a.disk D3).mount [pick]).disk a.disk = D3.cut [pick] := bay_disk hb4
  have hnum4 : (((new c).setDisk a.disk D3).mount [pick]).number a = (n : Int) := by
    rw [← hne]
    unfold number
    rw [st4, hst]
    rfl
  unfold read
  rw [hnum4, if_neg (by omega)]
  have hacc : (((new c).setDisk a.disk D3).mount [pick]).access a.disk = 0 := by
    unfold access; rw [if_neg (by simp [mount]), if_pos st4]
  rw [if_neg (by simp [hacc]), dk4]
  unfold DiskM.read
  have hn3 : (D3.cut [pick]).n = (DiskM.new c.sectors).n := by rw [← hD3]; exact hD2n
  rw [if_pos (DiskM.has_of (by omega) (by rw [hn3]; omega)), Int.toNat_natCast]
  have hr : D3.rank n = 0 := by
    unfold DiskM.rank
    rw [← hD3]
    simp only
    rw [List.length_eq_zero_iff, List.filter_eq_nil_iff]
    intro z hz
    have := List.mem_range.1 hz
    simp [fupd, hD2c]; omega
  have hcn : D3.cache n = some y := by rw [← hD3]; simp [fupd]
  have hdn : D3.dur n = x := by rw [← hD3]; exact hD2d
  unfold DiskM.content
  show (((fun _ => none : Nat → Option (List UInt8)) n).getD ((D3.cut [pick]).dur n), 0) = _
  simp only [Option.getD_none]
  unfold DiskM.cut
  simp only [hcn, hr, hdn, List.getD_cons_zero]
  rfl
theorem cutBays_state : ∀ (l : List BayM) (p : List Int) (j : Nat), ((cutBays l p)[j]?).map BayM.state = (l[j]?).map BayM.state
  | [], _, _ => rfl
  | b :: r, p, 0 => by
    show ((if b.state = 1 then _ else _)[0]?).map BayM.state = _
    split
    · rename_i h; simp [h]
    · rfl
  | b :: r, p, j + 1 => by
    show ((if b.state = 1 then _ else _)[j + 1]?).map BayM.state = _
    split
    · rw [List.getElem?_cons_succ, List.getElem?_cons_succ]; exact cutBays_state r _ j
    · rw [List.getElem?_cons_succ, List.getElem?_cons_succ]; exact cutBays_state r _ j
theorem state_eq (S : ShelfM) (d : Int) : S.state d = if 0 ≤ d then ((S.bays[d.toNat]?).map BayM.state).getD 0 else 0 := by
  unfold state bay
  by_cases h : 0 ≤ d
  · rw [if_pos h, if_pos h]
    cases S.bays[d.toNat]? <;> rfl
  · rw [if_neg h, if_neg h]
theorem mount_state (S : ShelfM) (p : List Int) (d : Int) : (S.mount p).state d = S.state d := by
  rw [state_eq, state_eq]
  show (if 0 ≤ d then (((cutBays S.bays p)[d.toNat]?).map BayM.state).getD 0 else 0) = _
  rw [cutBays_state]

/-- The power is on, a fuse is set, the bay is in service. -/
structure FuseI (S : ShelfM) (d m : Int) : Prop where
  off : S.off = false
  st : S.state d = 1
  fused : S.fused = true
  left : S.left = m
theorem flush_more {S : ShelfM} {d m : Int} (hw : S.WF) (h : FuseI S d m) (hm : 0 < m) : (S.flush d).2 = 0 ∧ FuseI (S.flush d).1 d (m - 1) := by
  obtain ⟨h1, h2⟩ := state_in hw (d := d) (by rw [h.st]; decide)
  have e : S.flush d = (({ S with left := S.left - 1 } : ShelfM).setDisk d (S.disk d).flush, 0) := by
    unfold flush step
    rw [if_neg (by rw [h.st]; decide), if_neg (by rw [h.off]; decide), if_neg (by rw [h.st]; simp), if_pos h.fused, if_neg (by rw [h.left]; omega)]
  rw [e]
  refine ⟨rfl, h.off, ?_, h.fused, by show S.left - 1 = m - 1; rw [h.left]⟩
  rw [setDisk_state (S := { S with left := S.left - 1 }) h1 h2]
  exact h.st
theorem flush_last {S : ShelfM} {d : Int} (h : FuseI S d 0) : S.flush d = ({ S with off := true, fused := false }, 14) := by
  unfold flush step
  rw [if_neg (by rw [h.st]; decide), if_neg (by rw [h.off]; decide), if_neg (by rw [h.st]; simp), if_pos h.fused, if_pos h.left]
theorem down_flushAll {S : ShelfM} (h : S.off = true) : S.flushAll = (S, 14) := by unfold flushAll; rw [if_pos h]
theorem first_number {S : ShelfM} {d : Int} (hw : S.WF) (h : S.state d ≠ 0) : S.number ⟨d, 1, 0⟩ = 0 := by
  have := hw.cfg.log
  unfold number
  rw [if_neg]
  · rfl
  · simp only [CfgM.size, if_true]
    omega
theorem down_read {S : ShelfM} {d : Int} (hw : S.WF) (h : S.state d ≠ 0) (ho : S.off = true) : S.read ⟨d, 1, 0⟩ = ([], 14) := by
  unfold read
  have e : S.access d = 14 := by unfold access; rw [if_pos ho]
  rw [first_number hw h, if_neg (by decide), if_pos (by simp [e]), e]
theorem down_write {S : ShelfM} {d : Int} {s : List UInt8} (hw : S.WF) (h : S.state d ≠ 0) (ho : S.off = true) (hs : s.length = 64) : S.write ⟨d, 1, 0⟩ s = (S, 14) := by
  unfold write
  rw [first_number hw h, if_neg (by simp [hs])]
  unfold step
  rw [if_pos ho]
theorem on_flush {S : ShelfM} {d : Int} (h : S.state d = 1) (ho : S.off = false) (hf : S.fused = false) : (S.flush d).2 = 0 := by
  unfold flush
  rw [if_neg (by rw [h]; decide), step_run ho h hf]
end ShelfM
end Go.Sl
