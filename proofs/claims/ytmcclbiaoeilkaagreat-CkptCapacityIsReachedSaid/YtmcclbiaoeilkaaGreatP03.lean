import Derived.Test.YtmcclbiaoeilkaaGreatP02
import Derived.Deep.MidRow
import Derived.Test.YtmcclbiaoeilkaaGreatRows
import Derived.Test.YtmcclbiaoeilkaaGreatP01
import Derived.WalkSpells
import Derived.WalkLawsBesides
import Derived.Deep.QuietTactic
import Derived.BigQuiet
import Derived.Deep.RegionHeld3
import Derived.Lib.Hide
import Derived.Outline
/- Part 3 of a proof; the last part says what is proved. -/
section
namespace Go.Sl
open Go Go.RowKit
def zsec : List UInt8 := List.replicate 64 0
theorem zsec_length : zsec.length = 64 := by simp [zsec]
def fupd {α : Type} (f : Nat → α) (k : Nat) (v : α) : Nat → α := fun i => if i = k then v else f i
theorem fupd_self {α : Type} {f : Nat → α} {k : Nat} {v : α} (h : f k = v) : fupd f k v = f := by
  funext i; unfold fupd; split
  · subst i; exact h.symm
  · rfl
structure DiskM where
  n : Nat
  dur : Nat → List UInt8
  cache : Nat → Option (List UInt8)
  armed : Nat → Option Int
namespace DiskM
structure WF (D : DiskM) : Prop where
  dur : ∀ i, i < D.n → (D.dur i).length = 64
  cache : ∀ i s, D.cache i = some s → i < D.n ∧ s.length = 64
  armed : ∀ i j, D.armed i = some j → i < D.n ∧ (j = -1 ∨ 0 ≤ j ∧ j < (D.n : Int))
  small : D.n ≤ 65536
def new (n : Int) : DiskM := { n := (min (max n 0) 65536).toNat, dur := fun _ => zsec, cache := fun _ => none, armed := fun _ => none }
def has (D : DiskM) (i : Int) : Bool := decide (0 ≤ i) && decide (i < (D.n : Int))
def put (D : DiskM) (i : Nat) (s : List UInt8) : DiskM :=
  match D.armed i with
  | none => { D with cache := fupd D.cache i (some s) }
  | some j => if j = -1 then { D with armed := fupd D.armed i none } else { D with armed := fupd D.armed i none, cache := fupd D.cache j.toNat (some s) }
def write (D : DiskM) (i : Int) (s : List UInt8) : DiskM × Int := if D.has i = true ∧ s.length = 64 then (D.put i.toNat s, 0) else (D, 1)
def content (D : DiskM) (i : Nat) : List UInt8 := (D.cache i).getD (D.dur i)
def read (D : DiskM) (i : Int) : List UInt8 × Int := if D.has i = true then (D.content i.toNat, 0) else ([], 1)
def pending (D : DiskM) : List Nat := (List.range D.n).filter fun i => (D.cache i).isSome
def flush (D : DiskM) : DiskM := { D with dur := fun i => D.content i, cache := fun _ => none }
def rank (D : DiskM) (i : Nat) : Nat := ((List.range i).filter fun k => (D.cache k).isSome).length
def clamp (k : Int) : Nat := (min (max k 0) 64).toNat
def torn (new old : List UInt8) (k : Int) : List UInt8 := new.take (clamp k) ++ old.drop (clamp k)
def cut (D : DiskM) (picks : List Int) : DiskM :=
  { D with dur := fun i => match D.cache i with | none => D.dur i | some s => torn s (D.dur i) (picks.getD (D.rank i) 0), cache := fun _ => none, armed := fun _ => none }
def cutStep (D : DiskM) (i : Nat) (pick : Int) : DiskM :=
  match D.cache i with
  | none => D
  | some s => { D with dur := fupd D.dur i (torn s (D.dur i) pick), cache := fupd D.cache i none }
def cutN (D : DiskM) (picks : List Int) : Nat → DiskM
  | 0 => D
  | k + 1 => cutStep (cutN D picks k) (D.pending.getD k 0) (picks.getD k 0)
theorem rank_pending (D : DiskM) {j i : Nat} (h : D.pending[j]? = some i) : D.rank i = j := by
  have hi : i ∈ D.pending := List.mem_of_getElem? h
  unfold pending at hi h
  rw [List.mem_filter, List.mem_range] at hi
  obtain ⟨m, hm⟩ : ∃ m, D.n = i + (m + 1) := ⟨D.n - i - 1, by omega⟩
  have hn : ((List.range D.n).filter fun i => (D.cache i).isSome).Nodup := (List.nodup_range).filter _
  have hsplit : ((List.range D.n).filter fun i => (D.cache i).isSome) = ((List.range i).filter fun i => (D.cache i).isSome) ++ i :: (((List.range m).map Nat.succ).map (i + ·)).filter fun i => (D.cache i).isSome := by
    rw [hm, List.range_add, List.filter_append, List.range_succ_eq_map, List.map_cons, List.filter_cons, Nat.add_zero, if_pos hi.2]
  unfold rank
  have h1 : ((List.range D.n).filter fun i => (D.cache i).isSome)[((List.range i).filter fun i => (D.cache i).isSome).length]? = some i := by
    rw [hsplit, List.getElem?_append_right (Nat.le_refl _), Nat.sub_self]; rfl
  rw [← h] at h1
  exact (List.getElem?_inj (List.getElem?_eq_some_iff.1 (h1.trans h)).1 hn).1 h1
theorem cutN_spec (D : DiskM) (picks : List Int) : ∀ k, k ≤ D.pending.length → (cutN D picks k).n = D.n ∧ (cutN D picks k).armed = D.armed ∧
    (∀ i, (cutN D picks k).cache i = if i ∈ D.pending.take k then none else D.cache i) ∧
    (∀ i, (cutN D picks k).dur i = if i ∈ D.pending.take k then torn ((D.cache i).getD []) (D.dur i) (picks.getD (D.rank i) 0) else D.dur i)
  | 0, _ => ⟨rfl, rfl, fun i => by simp [cutN], fun i => by simp [cutN]⟩
  | k + 1, hk => by
    obtain ⟨h1, h2, h3, h4⟩ := cutN_spec D picks k (by omega)
    have hlt : k < D.pending.length := by omega
    obtain ⟨i, hi⟩ : ∃ i, D.pending[k]? = some i := ⟨_, List.getElem?_eq_getElem hlt⟩
    have hgd : D.pending.getD k 0 = i := by simp [hi]
    have hmem : i ∈ D.pending := List.mem_of_getElem? hi
    have hnd : D.pending.Nodup := (List.nodup_range).filter _
    have hnot : i ∉ D.pending.take k := by
      intro h
      obtain ⟨j, hj, he⟩ := List.getElem_of_mem h
      rw [List.length_take] at hj
      rw [List.getElem_take] at he
      have : D.pending[j]? = D.pending[k]? := by rw [hi, List.getElem?_eq_getElem (by omega), he]
      have := (List.getElem?_inj (by omega) hnd).1 this
      omega
    have htake : D.pending.take (k + 1) = D.pending.take k ++ [i] := by rw [List.take_succ_eq_append_getElem hlt]; congr 2; rw [List.getElem?_eq_getElem hlt] at hi; exact Option.some.inj hi
    obtain ⟨s, hs⟩ : ∃ s, D.cache i = some s := by
      unfold pending at hmem; rw [List.mem_filter] at hmem; exact Option.isSome_iff_exists.1 hmem.2
    have hr := rank_pending D hi
    have hc : (cutN D picks k).cache i = some s := by rw [h3, if_neg hnot, hs]
    have e : cutN D picks (k + 1) = { cutN D picks k with dur := fupd (cutN D picks k).dur i (torn s (D.dur i) (picks.getD k 0)), cache := fupd (cutN D picks k).cache i none } := by
      show cutStep _ _ _ = _
      rw [hgd]; unfold cutStep; rw [hc, h4, if_neg hnot]
    rw [e]
    refine ⟨h1, h2, fun x => ?_, fun x => ?_⟩
    · show fupd _ i none x = _
      rw [htake]
      unfold fupd
      by_cases hx : x = i
      · rw [if_pos hx, if_pos (by simp [hx])]
      · rw [if_neg hx, h3]; simp [hx]
    · show fupd _ i _ x = _
      rw [htake]
      unfold fupd
      by_cases hx : x = i
      · subst hx; rw [if_pos rfl, if_pos (by simp), hs, hr]; rfl
      · rw [if_neg hx, h4]; simp [hx]
theorem has_iff {D : DiskM} {i : Int} : D.has i = true ↔ 0 ≤ i ∧ i < (D.n : Int) := by simp [has]
theorem WF.new (n : Int) : (DiskM.new n).WF := ⟨fun i h => zsec_length, fun i s h => by simp [DiskM.new] at h, fun i j h => by simp [DiskM.new] at h, by simp only [DiskM.new]; omega⟩
theorem WF.put {D : DiskM} (h : D.WF) {i : Nat} {s : List UInt8} (hi : i < D.n) (hs : s.length = 64) : (D.put i s).WF := by
  unfold DiskM.put
  split
  · refine ⟨h.dur, fun k t hk => ?_, h.armed, h.small⟩
    simp only [fupd] at hk
    split at hk
    · cases hk; subst k; exact ⟨hi, hs⟩
    · exact h.cache k t hk
  · rename_i j hj
    have ha := h.armed i j hj
    split
    · refine ⟨h.dur, h.cache, fun k t hk => ?_, h.small⟩
      simp only [fupd] at hk
      split at hk
      · cases hk
      · exact h.armed k t hk
    · refine ⟨h.dur, fun k t hk => ?_, fun k t hk => ?_, h.small⟩
      · simp only [fupd] at hk
        split at hk
        · cases hk; subst k; exact ⟨by have := ha.2; show j.toNat < D.n; omega, hs⟩
        · exact h.cache k t hk
      · simp only [fupd] at hk
        split at hk
        · cases hk
        · exact h.armed k t hk
theorem WF.write {D : DiskM} (h : D.WF) (i : Int) (s : List UInt8) : (D.write i s).1.WF := by
  unfold DiskM.write
  split
  · rename_i hc; have := has_iff.1 hc.1; exact h.put (by omega) hc.2
  · exact h
theorem content_length {D : DiskM} (h : D.WF) {i : Nat} (hi : i < D.n) : (D.content i).length = 64 := by
  unfold content
  cases hc : D.cache i with
  | none => exact h.dur i hi
  | some s => exact (h.cache i s hc).2
theorem WF.flush {D : DiskM} (h : D.WF) : D.flush.WF := ⟨fun i hi => content_length h hi, fun i s hs => by simp [DiskM.flush] at hs, h.armed, h.small⟩
theorem clamp_le (k : Int) : clamp k ≤ 64 := by unfold clamp; omega
theorem torn_length {a b : List UInt8} (ha : a.length = 64) (hb : b.length = 64) (k : Int) : (torn a b k).length = 64 := by
  have := clamp_le k
  simp [torn, ha, hb]; omega
theorem WF.cut {D : DiskM} (h : D.WF) (picks : List Int) : (D.cut picks).WF := by
  refine ⟨fun i hi => ?_, fun i s hs => by simp [DiskM.cut] at hs, fun i s hs => by simp [DiskM.cut] at hs, h.small⟩
  simp only [DiskM.cut]
  cases hc : D.cache i with
  | none => exact h.dur i hi
  | some s => exact torn_length (h.cache i s hc).2 (h.dur i hi) _
theorem cutN_all (D : DiskM) (h : D.WF) (picks : List Int) : { cutN D picks D.pending.length with armed := fun _ => none } = D.cut picks := by
  obtain ⟨h1, _, h3, h4⟩ := cutN_spec D picks D.pending.length (Nat.le_refl _)
  have hm : ∀ i, i ∈ D.pending ↔ (D.cache i).isSome = true := by
    intro i
    unfold pending
    rw [List.mem_filter, List.mem_range]
    constructor
    · exact fun x => x.2
    · intro hx
      obtain ⟨s, hs⟩ := Option.isSome_iff_exists.1 hx
      exact ⟨(h.cache i s hs).1, hx⟩
  have hd : (cutN D picks D.pending.length).dur = (D.cut picks).dur := by
    funext i
    rw [h4, List.take_length]
    unfold DiskM.cut
    cases hc : D.cache i with
    | none => rw [if_neg (by rw [hm, hc]; simp)]; simp [hc]
    | some s => rw [if_pos (by rw [hm, hc]; rfl)]; simp [hc]
  have hcc : (cutN D picks D.pending.length).cache = (D.cut picks).cache := by
    funext i
    rw [h3, List.take_length]
    cases hc : D.cache i with
    | none => simp [DiskM.cut]
    | some s => rw [if_pos (by rw [hm, hc]; rfl)]; simp [DiskM.cut]
  have hn : (cutN D picks D.pending.length).n = (D.cut picks).n := h1
  have ha : (fun _ => none) = (D.cut picks).armed := rfl
  show ({ n := (DiskM.cutN D picks D.pending.length).n, dur := (DiskM.cutN D picks D.pending.length).dur, cache := (DiskM.cutN D picks D.pending.length).cache, armed := fun _ => none } : DiskM) = D.cut picks
  rw [hd, hcc, hn, ha]
theorem WF.cutStep {D : DiskM} (h : D.WF) (i : Nat) (pick : Int) : (D.cutStep i pick).WF := by
  unfold DiskM.cutStep
  split
  · exact h
  · rename_i s hs
    refine ⟨fun k hk => ?_, fun k t hk => ?_, h.armed, h.small⟩
    · simp only [fupd]; split
      · subst k; exact torn_length (h.cache i s hs).2 (h.dur i (h.cache i s hs).1) pick
      · exact h.dur k hk
    · simp only [fupd] at hk
      split at hk
      · cases hk
      · exact h.cache k t hk
theorem WF.cutN {D : DiskM} (h : D.WF) (picks : List Int) : ∀ k, (DiskM.cutN D picks k).WF
  | 0 => h
  | k + 1 => (WF.cutN h picks k).cutStep _ _
end DiskM
def byteV (b : UInt8) : Value := .int .u8 b.toNat
def secL (s : List UInt8) : List Value := s.map byteV
def secA (s : List UInt8) : Array Value := (secL s).toArray
abbrev secV (s : List UInt8) : Value := .agg (secA s)
theorem secA_size (s : List UInt8) : (secA s).size = s.length := by simp [secA, secL]
theorem secA_toList (s : List UInt8) : (secA s).toList = secL s := by simp [secA]
theorem secL_length (s : List UInt8) : (secL s).length = s.length := by simp [secL]
theorem secL_one {s : List UInt8} : ∀ v ∈ secL s, v.oneCell' = true := by
  intro v hv; obtain ⟨b, _, rfl⟩ := List.mem_map.1 hv; rfl
def KvSec (l : KV) (m : Nat → Option (List UInt8)) : Prop := ∀ k : Int, lk l k = if 0 ≤ k then (m k.toNat).map secV else none
def KvInt (l : KV) (m : Nat → Option Int) : Prop := ∀ k : Int, lk l k = if 0 ≤ k then (m k.toNat).map (Value.int .i64) else none
theorem KvSec.upd {l : KV} {m : Nat → Option (List UInt8)} (h : KvSec l m) {k : Int} (hk : 0 ≤ k) (s : List UInt8) : KvSec (upd l k (secV s)) (fupd m k.toNat (some s)) := by
  intro x
  rw [lk_upd, h x]
  by_cases hx : x = k
  · subst hx; simp [hk, fupd]
  · rw [if_neg hx]
    by_cases h0 : 0 ≤ x
    · rw [if_pos h0, if_pos h0]; simp only [fupd]; rw [if_neg (by omega)]
    · rw [if_neg h0, if_neg h0]
theorem KvInt.upd {l : KV} {m : Nat → Option Int} (h : KvInt l m) {k : Int} (hk : 0 ≤ k) (s : Int) : KvInt (upd l k (.int .i64 s)) (fupd m k.toNat (some s)) := by
  intro x
  rw [lk_upd, h x]
  by_cases hx : x = k
  · subst hx; simp [hk, fupd]
  · rw [if_neg hx]
    by_cases h0 : 0 ≤ x
    · rw [if_pos h0, if_pos h0]; simp only [fupd]; rw [if_neg (by omega)]
    · rw [if_neg h0, if_neg h0]
theorem KvSec.del {l : KV} {m : Nat → Option (List UInt8)} (h : KvSec l m) (hn : (l.map (·.1)).Nodup) {k : Int} (hk : 0 ≤ k) : KvSec (del l k) (fupd m k.toNat none) := by
  intro x
  rw [lk_del hn, h x]
  by_cases hx : x = k
  · subst hx; simp [fupd]
  · rw [if_neg hx]
    by_cases h0 : 0 ≤ x
    · rw [if_pos h0, if_pos h0]; simp only [fupd]; rw [if_neg (by omega)]
    · rw [if_neg h0, if_neg h0]
theorem KvInt.del {l : KV} {m : Nat → Option Int} (h : KvInt l m) (hn : (l.map (·.1)).Nodup) {k : Int} (hk : 0 ≤ k) : KvInt (del l k) (fupd m k.toNat none) := by
  intro x
  rw [lk_del hn, h x]
  by_cases hx : x = k
  · subst hx; simp [fupd]
  · rw [if_neg hx]
    by_cases h0 : 0 ≤ x
    · rw [if_pos h0, if_pos h0]; simp only [fupd]; rw [if_neg (by omega)]
    · rw [if_neg h0, if_neg h0]
theorem KvSec.nil : KvSec [] fun _ => none := by intro k; simp [lk]
theorem KvInt.nil : KvInt [] fun _ => none := by intro k; simp [lk]
def DurC (n : Nat) (dur : Nat → List UInt8) (c : Array Value) : Prop := ∀ i, i < n → ∀ j u, (secL (dur i))[j]? = some u → c[i * 64 + j]? = some u
def putL : Array Value → Nat → List Value → Array Value
  | c, _, [] => c
  | c, o, v :: r => putL (c.setIfInBounds o v) (o + 1) r
theorem putL_size : ∀ (vs : List Value) (c : Array Value) (o : Nat), (putL c o vs).size = c.size
  | [], _, _ => rfl
  | v :: r, c, o => by rw [putL, putL_size r]; simp
theorem putL_at : ∀ (vs : List Value) (c : Array Value) (o j : Nat), o + vs.length ≤ c.size → (putL c o vs)[j]? = if o ≤ j ∧ j < o + vs.length then vs[j - o]? else c[j]?
  | [], c, o, j, _ => by rw [putL, if_neg (by simp only [List.length_nil]; omega)]
  | v :: r, c, o, j, h => by
    simp only [List.length_cons] at h ⊢
    rw [putL, putL_at r _ _ _ (by simp; omega)]
    by_cases h1 : o + 1 ≤ j ∧ j < o + 1 + r.length
    · rw [if_pos h1, if_pos (by omega), show j - o = (j - (o + 1)) + 1 by omega, List.getElem?_cons_succ]
    · rw [if_neg h1, Array.getElem?_setIfInBounds]
      by_cases h2 : o = j
      · subst h2; rw [if_pos rfl, if_pos (by omega), if_pos (by omega)]; simp
      · rw [if_neg h2, if_neg (by omega)]
theorem Sat.setCells {b : Nat} {T : TypeId} {fr : Nat × Nat} {F : HProp} : ∀ (vs : List Value) {w : World} {c : Array Value} {o : Nat}, Sat w (pts b (.cells c T fr) * F) → Sat (w.setCells b o vs) (pts b (.cells (putL c o vs) T fr) * F)
  | [], _, _, _, h => h
  | _ :: r, _, _, _, h => Sat.setCells r (h.setCell _)
theorem Same.setCells {b : Nat} {w0 : World} : ∀ (vs : List Value) {w : World} {o : Nat}, Same w0 w → Same w0 (w.setCells b o vs)
  | [], _, _, h => h
  | _ :: r, _, _, h => Same.setCells r (h.setCell _ _)
theorem durC_put {n : Nat} {dur : Nat → List UInt8} {c : Array Value} (h : DurC n dur c) {cap : Nat} (hc : c.size = cap * 64) (hcap : n ≤ cap) (hl : ∀ i, i < n → (dur i).length = 64) {k : Nat} (hk : k < n) {s : List UInt8} (hs : s.length = 64) :
    DurC n (fupd dur k s) (putL c (k * 64) (secL s)) := by
  intro i hi t u hu
  rw [putL_at _ _ _ _ (by rw [secL_length, hs, hc]; omega), secL_length, hs]
  unfold fupd at hu
  by_cases hik : i = k
  · subst hik
    rw [if_pos rfl] at hu
    have ht : t < 64 := by have := (List.getElem?_eq_some_iff.1 hu).1; rw [secL_length, hs] at this; exact this
    rw [if_pos (by omega), show i * 64 + t - i * 64 = t by omega]; exact hu
  · rw [if_neg hik] at hu
    have ht : t < 64 := by have := (List.getElem?_eq_some_iff.1 hu).1; rw [secL_length, hl i hi] at this; exact this
    rw [if_neg (by omega)]
    exact h i hi t u hu
theorem durC_torn {n : Nat} {dur : Nat → List UInt8} {c : Array Value} (h : DurC n dur c) {cap : Nat} (hc : c.size = cap * 64) (hcap : n ≤ cap) (hl : ∀ i, i < n → (dur i).length = 64) {k : Nat} (hk : k < n) {s : List UInt8} (hs : s.length = 64) {m : Nat} (hm : m ≤ 64) :
    DurC n (fupd dur k (s.take m ++ (dur k).drop m)) (putL c (k * 64) (secL (s.take m))) := by
  intro i hi t u hu
  have hlen : (secL (s.take m)).length = m := by rw [secL_length, List.length_take, hs]; omega
  rw [putL_at _ _ _ _ (by rw [hlen, hc]; omega), hlen]
  unfold fupd at hu
  by_cases hik : i = k
  · subst hik
    rw [if_pos rfl] at hu
    have ht : t < 64 := by
      have := (List.getElem?_eq_some_iff.1 hu).1
      rw [secL_length, List.length_append, List.length_take, List.length_drop, hs, hl i hi] at this; omega
    unfold secL at hu ⊢
    rw [List.map_append] at hu
    by_cases htm : t < m
    · rw [if_pos (by omega), show i * 64 + t - i * 64 = t by omega]
      rw [List.getElem?_append_left (by simp [hs]; omega)] at hu
      exact hu
    · rw [if_neg (by omega)]
      rw [List.getElem?_append_right (by simp [hs]; omega)] at hu
      refine h i hi t u ?_
      rw [List.length_map, List.length_take, hs, show min m 64 = m by omega] at hu
      rw [List.map_drop, List.getElem?_drop, show m + (t - m) = t by omega] at hu
      exact hu
  · rw [if_neg hik] at hu
    have ht : t < 64 := by have := (List.getElem?_eq_some_iff.1 hu).1; rw [secL_length, hl i hi] at this; exact this
    rw [if_neg (by omega)]
    exact h i hi t u hu
theorem durC_there {n : Nat} {c : Array Value} {w : World} {b : Nat} {T : TypeId} {cap : Nat} (hb : w.heap[b]? = some (.cells c T (0, 0))) (hc : c.size = cap * 64) (hcap : n ≤ cap) {k : Nat} (hk : k < n) : w.there b (0 + k * 64) 64 := by
  intro j hj
  refine ⟨?_, thawed_at hb _⟩
  rw [cells_at hb]
  rw [Array.getElem?_eq_getElem (show 0 + k * 64 + j < c.size by omega)]; rfl
def durAt (TS : TypeId) (n : Nat) (dur : Nat → List UInt8) (v : Value) : HProp :=
  if n = 0 then lift (∃ b c, v = .slice b 0 c)
  else ex fun b : Nat => ex fun cap : Nat => ex fun c : Array Value => lift (v = .slice (some ⟨b, 0, none⟩) n cap ∧ n ≤ cap ∧ c.size = cap * 64 ∧ DurC n dur c) * pts b (.cells c TS (0, 0))
def diskAt (TD TS : TypeId) (p : Nat) (D : DiskM) : HProp :=
  ex fun v : Value => ex fun cb : Nat => ex fun ab : Nat => ex fun es : Array MapEntry => ex fun c : Nat => ex fun l : KV => ex fun es2 : Array MapEntry => ex fun c2 : Nat => ex fun l2 : KV =>
    lift (D.WF ∧ MapL es c l ∧ KvSec l D.cache ∧ MapL es2 c2 l2 ∧ KvInt l2 D.armed) *
      (pts p (.cells #[v, .map (some cb), .map (some ab)] TD (0, 0)) * (durAt TS D.n D.dur v * (pts cb (.map es c) * pts ab (.map es2 c2))))
section
variable {w : World} {F : HProp} {TD TS : TypeId}
theorem diskAt_iff {p : Nat} {D : DiskM} : Sat w (diskAt TD TS p D * F) ↔ ∃ v cb ab es c l es2 c2 l2, (D.WF ∧ MapL es c l ∧ KvSec l D.cache ∧ MapL es2 c2 l2 ∧ KvInt l2 D.armed) ∧
    Sat w (pts p (.cells #[v, .map (some cb), .map (some ab)] TD (0, 0)) * (durAt TS D.n D.dur v * (pts cb (.map es c) * (pts ab (.map es2 c2) * F)))) := by
  simp only [diskAt, Sat.ex, star_assoc, Sat.lift]
theorem durAt_zero {dur : Nat → List UInt8} {v : Value} : Sat w (durAt TS 0 dur v * F) ↔ (∃ b c, v = .slice b 0 c) ∧ Sat w F := by
  simp only [durAt, if_true, Sat.lift]
theorem durAt_iff {n : Nat} (hn : 0 < n) {dur : Nat → List UInt8} {v : Value} : Sat w (durAt TS n dur v * F) ↔
    ∃ b cap c, (v = .slice (some ⟨b, 0, none⟩) n cap ∧ n ≤ cap ∧ c.size = cap * 64 ∧ DurC n dur c) ∧ Sat w (pts b (.cells c TS (0, 0)) * F) := by
  rw [durAt, if_neg (by omega)]
  simp only [Sat.ex, star_assoc, Sat.lift]
theorem durAt_slice {n : Nat} {dur : Nat → List UInt8} {v : Value} (h : Sat w (durAt TS n dur v * F)) : ∃ b c, v = .slice b n c := by
  by_cases hn : n = 0
  · subst hn; exact (durAt_zero.1 h).1
  · obtain ⟨b, cap, c, ⟨hv, _⟩, _⟩ := (durAt_iff (by omega)).1 h; exact ⟨_, _, hv⟩
theorem diskAt_wf {p : Nat} {D : DiskM} (h : Sat w (diskAt TD TS p D * F)) : D.WF := by
  obtain ⟨v, cb, ab, es, c, l, es2, c2, l2, hh, _⟩ := diskAt_iff.1 h; exact hh.1
end
end Go.Sl
end
section
namespace Go.Proofs.YtmcclbiaoeilkaaGreat
open Go.RowKit Go.Sl Go.ChangeMaps
abbrev TD : TypeId := 130
abbrev TS : TypeId := 153
theorem disk_cells {w : World} {p : Nat} {x y z : Value} {F : HProp} (h : Sat w (pts p (.cells #[x, y, z] TD (0, 0)) * F)) :
    w.cell? ⟨p, 0, none⟩ = some x ∧ w.cell? ⟨p, 1, none⟩ = some y ∧ w.cell? ⟨p, 2, none⟩ = some z :=
  ⟨cells_at h.block 0, cells_at h.block 1, cells_at h.block 2⟩
set_option maxHeartbeats 400000 in
theorem has_any (p : Nat) (b : Option Addr) (n c : Nat) (i : Int) (w : World) (c0 : w.cell? ⟨p, 0, none⟩ = some (.slice b n c)) :
    Calls Tryz.prog 118 #[.pointer (some ⟨p, 0, none⟩), .int .i64 i] w fun e w' => e = .returned (.bool (decide (0 ≤ i) && decide (i < (n : Int)))) ∧ w = w' := by
  by_cases h : 0 ≤ i
  · go_enter Tryz.func118, Tryz.ntmps118
    go_wp2
    go_ret
    exact ⟨by simp [h], rfl⟩
  · go_enter Tryz.func118, Tryz.ntmps118
    go_wp2
    go_ret
    exact ⟨by rw [show decide (0 ≤ i) = false from decide_eq_false (by omega)]; rfl, rfl⟩
theorem zeroTS (w : World) : (zeroValue TS).run Tryz.prog w = .ok (secV zsec) w := by kernel_rfl
theorem infoTS {s : List UInt8} (h : s.length = 64) : (Tryz.prog.info? TS).map (·.size) = some (secA s).size := by
  rw [secA_size, h]; kernel_rfl
section
variable {ops : Array Oper} {rest : List Oper} {o : Oper} {a : Act} {w : World} {Q : Exit → Act → World → Prop}
theorem wp_store_sec {z s : List UInt8} (hz : z.length = 64) (hs : s.length = 64) (hg : o.guard = none) (x y : Operand) (ho : o.op = .store TS x y)
    (hx : a.eval x = .pointer (some ⟨w.heap.size, 0, none⟩)) (hy : a.eval y = secV s) (k : wpList Tryz.prog ops Q rest (a.put o.dst undef) (w.alloc (.cells (secA s) TS))) :
    wpList Tryz.prog ops Q (o :: rest) a (w.alloc (.cells (secA z) TS)) :=
  wpList_store_fresh hg TS x y ho TS _ (secA s) hx hy (infoTS hs) (by rw [secA_size, secA_size, hs, hz]) (by rw [secA_toList]; exact secL_one) k
theorem wp_str_sec {s : List UInt8} (hs : s.length = 64) {T : TypeId} {c : Nat} {fr : Nat × Nat} (hg : o.guard = none) (x : Operand) (ho : o.op = .convert 69 9 x)
    (hx : a.eval x = .slice (some ⟨w.heap.size, 0, none⟩) 64 c) (k : wpList Tryz.prog ops Q rest (a.put o.dst (.string ⟨s.toArray⟩)) (w.alloc (.cells (secA s) T fr))) :
    wpList Tryz.prog ops Q (o :: rest) a (w.alloc (.cells (secA s) T fr)) := by
  refine wpList_run hg (v := .string ⟨s.toArray⟩) (w' := w.alloc (.cells (secA s) T fr)) ?_ k
  have := run_convert_bytes_back (P := Tryz.prog) (w.alloc (.cells (secA s) T fr)) 69 9 5 ⟨w.heap.size, 0, none⟩ c s Tryz.underlying69 Tryz.underlying5 Tryz.underlying9 (by
    intro j hj
    have hb : (w.alloc (.cells (secA s) T fr)).heap[w.heap.size]? = some (.cells (secA s) T fr) := heap_alloc_new w _
    rw [Addr.add_mid, cells_at hb]
    simp [secA, secL, byteV, hj])
  rw [hs] at this
  unfold execOp
  simp [ho, hx, this]
theorem wp_load_dur {s : List UInt8} {b off : Nat} (hs : s.length = 64) (hr : w.rangeAt b off (secL s)) (hg : o.guard = none) (x : Operand) (ho : o.op = .load TS x)
    (hx : a.eval x = .pointer (some ⟨b, off, none⟩)) (k : wpList Tryz.prog ops Q rest (a.put o.dst (secV s)) w) : wpList Tryz.prog ops Q (o :: rest) a w :=
  wpList_load_mid hg TS x ho b off hx (secL s) _ hr Tryz.underlying153 rfl (by rw [infoTS hs, secA_size, secL_length]) k
end
theorem conv_sec {s : List UInt8} (hs : s.length = 64) (W : World) : ∃ W' cap, (convert 9 69 (.string ⟨s.toArray⟩)).run Tryz.prog W = .ok (.slice (some ⟨W.heap.size, 0, none⟩) 64 cap) W' ∧
    W'.rangeAt W.heap.size 0 (secL s) ∧ Below W.heap.size W W' := by
  have h := run_bytes_of_string (P := Tryz.prog) W 9 69 5 ⟨s.toArray⟩ Tryz.underlying9 Tryz.underlying69 Tryz.underlying5
  have hsz : (⟨s.toArray⟩ : ByteArray).size = 64 := by show s.toArray.size = 64; simpa using hs
  rw [hsz] at h
  refine ⟨_, _, h, ?_, ((Below.refl W.heap.size W).drew).alloc (Nat.le_refl _) _⟩
  intro j u hu
  have hb : ∀ ob : Obj, (W.drew.alloc ob).heap[W.heap.size]? = some ob := fun ob => heap_alloc_new W.drew ob
  rw [cells_at (hb _)]
  have hj : j < s.length := by have := (List.getElem?_eq_some_iff.1 hu).1; simpa [secL] using this
  simp only [secL, List.getElem?_map] at hu
  have hu' : (s.map fun b => Value.int .u8 b.toNat)[j]? = some u := by simpa [byteV] using hu
  rw [Nat.zero_add]
  unfold bytesRow
  rw [Array.getElem?_append_left (by simpa using hj)]
  simpa using hu'
set_option maxHeartbeats 400000 in
theorem read_any (p : Nat) (D : DiskM) (F : HProp) (i : Int) (w : World) (hS : Sat w (diskAt TD TS p D * F)) :
    Calls Tryz.prog 73 #[.pointer (some ⟨p, 0, none⟩), .int .i64 i] w fun e w' =>
      e = .returned (.tuple #[.string ⟨(D.read i).1.toArray⟩, .int .i64 (D.read i).2]) ∧ Below w.heap.size w w' := by
  obtain ⟨v, cb, ab, es, c, l, es2, c2, l2, ⟨hwf, hM, hK, hM2, hK2⟩, hs⟩ := diskAt_iff.1 hS
  have hsd := hs.right
  have hcb : w.heap[cb]? = some (.map es c) := (hs.right.right).block
  by_cases h : D.has i = true
  · have h2 := DiskM.has_iff.1 h
    obtain ⟨k, rfl⟩ := Int.eq_ofNat_of_zero_le h2.1
    have hkn : k < D.n := by omega
    have hd : (decide (0 ≤ (k : Int)) && decide ((k : Int) < (D.n : Int))) = true := h
    obtain ⟨b, cap, dc, ⟨rfl, hcap, hdc, hD⟩, hsb⟩ := (durAt_iff (by omega)).1 hsd
    obtain ⟨q0, q1, q2⟩ := disk_cells hs
    have hb := cells_at hsb.block
    have hlen := DiskM.content_length hwf hkn
    have hr : D.read (k : Int) = (D.content k, 0) := by unfold DiskM.read; rw [if_pos h]; rfl
    have hl0 := run_lookup_ok (P := Tryz.prog) (w := w) Tryz.underlying128 Tryz.underlying3 (zeroTS w) hcb hM (k : Int)
    have hlk0 := hK (k : Int)
    rw [if_pos h2.1] at hlk0
    simp only [Int.toNat_natCast] at hlk0
    rw [hr]
    clear hr
    unfold DiskM.content at hlen ⊢
    cases hca : D.cache k with
    | some s =>
      rw [hca] at hlk0 hlen
      rw [hlk0] at hl0
      simp only [Option.map_some, Option.getD_some, Option.isSome_some] at hl0 hlen ⊢
      clear hlk0 hca hD hK hM hM2 hK2 hwf hs hsd hsb hS h
      go_enter Tryz.func73, Tryz.ntmps73
      go_wp2_with (first
        | (go_at_call 118; refine (has_any _ _ _ _ _ _ q0).mono ?_; rintro e w' ⟨rfl, rfl⟩)
        | ((with_reducible (refine wpList_alloc_zero ?_ TS ?_ _ (zeroTS _) ?_)); rfl; rfl)
        | ((with_reducible (apply wp_store_sec zsec_length hlen)); rfl; rfl; rfl; rfl)
        | ((with_reducible (apply wp_str_sec hlen)); rfl; rfl; rfl))
      go_ret2
      exact ⟨rfl, (Below.refl _ _).alloc (Nat.le_refl _) _⟩
    | none =>
      rw [hca] at hlk0 hlen
      rw [hlk0] at hl0
      simp only [Option.map_none, Option.getD_none, Option.isSome_none] at hl0 hlen ⊢
      have hblt := hsb.lt
      have hplt := hs.lt
      have hra : ∀ ob, (w.alloc ob).rangeAt b (k * 64) (secL (D.dur k)) := by
        intro ob j u hu
        rw [World.cell?_alloc_lt _ _ _ hblt, hb]
        exact hD k hkn j u hu
      clear hlk0 hca hD hK hM hM2 hK2 hwf hs hsd hsb hS h
      go_enter Tryz.func73, Tryz.ntmps73
      go_wp2_with (first
        | (go_at_call 118; refine (has_any _ _ _ _ _ _ q0).mono ?_; rintro e w' ⟨rfl, rfl⟩)
        | ((with_reducible (refine wpList_alloc_zero ?_ TS ?_ _ (zeroTS _) ?_)); rfl; rfl)
        | ((with_reducible (apply wp_load_dur hlen (hra _))); rfl; rfl; rfl)
        | ((with_reducible (apply wp_store_sec zsec_length zsec_length)); rfl; rfl; rfl; rfl)
        | ((with_reducible (apply wp_store_sec zsec_length hlen)); rfl; rfl; rfl; rfl)
        | ((with_reducible (apply wp_str_sec hlen)); rfl; rfl; rfl))
      go_ret2
      exact ⟨rfl, (Below.refl _ _).alloc (Nat.le_refl _) _⟩
  · have hd : (decide (0 ≤ i) && decide (i < (D.n : Int))) = false := by simpa [DiskM.has] using h
    obtain ⟨b, cap, rfl⟩ := durAt_slice hs.right
    obtain ⟨q0, q1, q2⟩ := disk_cells hs
    have hr : D.read i = ([], 1) := by unfold DiskM.read; rw [if_neg h]
    rw [hr]
    clear hS hs hM hK hM2 hK2 hwf hr hcb hsd
    go_enter Tryz.func73, Tryz.ntmps73
    go_wp2_with (go_at_call 118; refine (has_any _ _ _ _ _ _ q0).mono ?_; rintro e w' ⟨rfl, rfl⟩)
    go_ret2
    exact ⟨rfl, Below.refl _ _⟩
end Go.Proofs.YtmcclbiaoeilkaaGreat
end
