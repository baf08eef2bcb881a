import Derived.Test.YtmcclbiaoeilkaaGreatP03
import Derived.Test.YtmcclbiaoeilkaaGreatP01
import Derived.WalkSmall
import Derived.Test.YtmcclbiaoeilkaaGreatP06
/- Part 7 of a proof; the last part says what is proved. -/
section
namespace Go.Sl
open Go Go.RowKit
structure CfgM where
  disks : Int
  racks : Int
  rows : Int
  spare : Int
  log : Int
  image : Int
  deriving DecidableEq
structure PlaceM where
  disk : Int
  area : Int
  index : Int
  deriving DecidableEq
structure BayM where
  disk : DiskM
  state : Int
structure ShelfM where
  cfg : CfgM
  bays : List BayM
  images : List DiskM
  off : Bool
  fused : Bool
  left : Int
def inB (n lo hi : Int) : Bool := decide (lo ≤ n) && decide (n ≤ hi)
namespace CfgM
def sectors (c : CfgM) : Int := c.log + c.image + c.image + c.rows
def ok (c : CfgM) : Bool := inB c.disks 1 64 && inB c.racks 1 8 && inB c.rows 1 4096 && inB c.spare 0 (c.disks - 1) && inB c.log 1 65536 && inB c.image 1 65536 && decide (c.disks % c.racks = 0)
def size (c : CfgM) (a : Int) : Int := if a = 1 then c.log else if a = 2 then c.image else if a = 3 then c.image else if a = 4 then c.rows else 0
def base (c : CfgM) (a : Int) : Int := if a = 1 then 0 else if a = 2 then c.log else if a = 3 then c.log + c.image else if a = 4 then c.log + c.image + c.image else 0
structure WF (c : CfgM) : Prop where
  disks : 1 ≤ c.disks ∧ c.disks ≤ 64
  rows : 1 ≤ c.rows ∧ c.rows ≤ 4096
  log : 1 ≤ c.log ∧ c.log ≤ 65536
  image : 1 ≤ c.image ∧ c.image ≤ 65536
  small : c.sectors ≤ 65536
end CfgM
namespace DiskM
theorem write_n (D : DiskM) (i : Int) (s : List UInt8) : (D.write i s).1.n = D.n := by
  unfold DiskM.write; split
  · unfold DiskM.put
    cases D.armed i.toNat with
    | none => rfl
    | some j => simp only; split <;> rfl
  · rfl
end DiskM
namespace ShelfM
def d0 : DiskM := DiskM.new 0
def bay (S : ShelfM) (d : Int) : Option BayM := if 0 ≤ d then S.bays[d.toNat]? else none
def state (S : ShelfM) (d : Int) : Int := match S.bay d with | some b => b.state | none => 0
def disk (S : ShelfM) (d : Int) : DiskM := match S.bay d with | some b => b.disk | none => d0
def setBay (S : ShelfM) (d : Int) (b : BayM) : ShelfM := { S with bays := S.bays.set d.toNat b }
def setDisk (S : ShelfM) (d : Int) (D : DiskM) : ShelfM := S.setBay d ⟨D, S.state d⟩
def number (S : ShelfM) (a : PlaceM) : Int :=
  if S.state a.disk = 0 ∨ a.area < 1 ∨ 4 < a.area ∨ a.index < 0 ∨ S.cfg.size a.area ≤ a.index then -1 else a.index + S.cfg.base a.area
def access (S : ShelfM) (d : Int) : Int := if S.off then 14 else if S.state d = 1 then 0 else 15
def step (S : ShelfM) (d : Int) (f : DiskM → DiskM) : ShelfM × Int :=
  if S.off then (S, 14) else if S.state d ≠ 1 then (S, 15)
  else if S.fused then (if S.left = 0 then ({ S with off := true, fused := false }, 14) else (({ S with left := S.left - 1 } : ShelfM).setDisk d (f (S.disk d)), 0))
  else (S.setDisk d (f (S.disk d)), 0)
def write (S : ShelfM) (a : PlaceM) (s : List UInt8) : ShelfM × Int :=
  if S.number a < 0 ∨ s.length ≠ 64 then (S, 1) else S.step a.disk fun D => (D.write (S.number a) s).1
def read (S : ShelfM) (a : PlaceM) : List UInt8 × Int :=
  if S.number a < 0 then ([], 1) else if S.access a.disk ≠ 0 then ([], S.access a.disk) else (S.disk a.disk).read (S.number a)
def flush (S : ShelfM) (d : Int) : ShelfM × Int := if S.state d = 0 then (S, 1) else S.step d DiskM.flush
def cutBays : List BayM → List Int → List BayM
  | [], _ => []
  | b :: r, picks => if b.state = 1 then ⟨b.disk.cut (picks.take b.disk.pending.length), 1⟩ :: cutBays r (picks.drop b.disk.pending.length) else b :: cutBays r picks
def mount (S : ShelfM) (picks : List Int) : ShelfM := { S with bays := cutBays S.bays picks, off := false, fused := false }
def want (S : ShelfM) (d : Int) (inn : Bool) (e : Int) : Int := if S.state d = 0 then 1 else if decide (S.state d = 1) ≠ inn then e else 0
def insert (S : ShelfM) (d image : Int) : ShelfM × Int :=
  if S.state d = 0 then (S, 1) else if image < 0 ∨ (S.images.length : Int) ≤ image then (S, 12)
  else if S.state d = 1 then (S, 19) else (S.setBay d ⟨S.images.getD image.toNat d0, 1⟩, 0)
def replace (S : ShelfM) (d : Int) : ShelfM × Int := if S.want d false 19 = 0 then (S.setBay d ⟨DiskM.new S.cfg.sectors, 1⟩, 0) else (S, S.want d false 19)
def peek (S : ShelfM) (a : PlaceM) : List UInt8 × Bool :=
  if S.number a < 0 then ([], false) else if S.state a.disk = 1 then (((S.disk a.disk).read (S.number a)).1, decide (((S.disk a.disk).read (S.number a)).2 = 0)) else ([], false)
def new (c : CfgM) : ShelfM := { cfg := c, bays := List.replicate c.disks.toNat ⟨DiskM.new c.sectors, 1⟩, images := [], off := false, fused := false, left := 0 }
structure WF (S : ShelfM) : Prop where
  cfg : S.cfg.WF
  bays : S.bays.length = S.cfg.disks.toNat
  st : ∀ b ∈ S.bays, (b.state = 1 ∨ b.state = 2 ∨ b.state = 3) ∧ (b.state = 1 → (b.disk.n : Int) = S.cfg.sectors)
  images : ∀ D ∈ S.images, (D.n : Int) = S.cfg.sectors
  left : S.fused = true → 0 ≤ S.left ∧ S.left < 9223372036854775808
theorem step_const (S : ShelfM) (d : Int) (f : DiskM → DiskM) : S.step d f = S.step d fun _ => f (S.disk d) := rfl
theorem bay_some {S : ShelfM} {d : Int} {b : BayM} : S.bay d = some b ↔ 0 ≤ d ∧ S.bays[d.toNat]? = some b := by
  unfold bay
  by_cases h : 0 ≤ d
  · simp [h]
  · simp [h]
theorem state_pos {S : ShelfM} (h : S.WF) {d : Int} : S.state d = 0 ↔ ¬ (0 ≤ d ∧ d < (S.bays.length : Int)) := by
  unfold state
  cases hb : S.bay d with
  | none =>
    simp only [true_iff]
    intro ⟨h1, h2⟩
    unfold bay at hb
    rw [if_pos h1, List.getElem?_eq_none_iff] at hb
    omega
  | some b =>
    obtain ⟨h1, h2⟩ := bay_some.1 hb
    have hm := (h.st b (List.mem_of_getElem? h2)).1
    have h3 := (List.getElem?_eq_some_iff.1 h2).1
    simp only
    constructor
    · intro h4; omega
    · intro h4; exact absurd ⟨h1, by omega⟩ h4
theorem bay_of {S : ShelfM} {d : Int} (h1 : 0 ≤ d) (h2 : d < (S.bays.length : Int)) : S.bays[d.toNat]? = some ⟨S.disk d, S.state d⟩ := by
  have h3 : d.toNat < S.bays.length := by omega
  have hb : S.bay d = some S.bays[d.toNat] := bay_some.2 ⟨h1, List.getElem?_eq_getElem h3⟩
  unfold disk state
  rw [hb, List.getElem?_eq_getElem h3]
theorem setDisk_self {S : ShelfM} {d : Int} (h1 : 0 ≤ d) (h2 : d < (S.bays.length : Int)) : S.setDisk d (S.disk d) = S := by
  have h := bay_of h1 h2
  have : S.bays.set d.toNat ⟨S.disk d, S.state d⟩ = S.bays := by
    apply List.ext_getElem?
    intro i
    rw [List.getElem?_set]
    split
    · subst i; rw [h]; simp only [ite_eq_left_iff]; intro h3; omega
    · rfl
  unfold setDisk setBay
  rw [this]
theorem setBay_state {S : ShelfM} {d e : Int} {b : BayM} (h1 : 0 ≤ d) (h2 : d < (S.bays.length : Int)) : (S.setBay d b).bay e = if e = d then some b else S.bay e := by
  unfold bay setBay
  by_cases he : 0 ≤ e
  · simp only [he, if_true]
    rw [List.getElem?_set]
    by_cases hed : e = d
    · subst hed; simp; omega
    · rw [if_neg (by omega), if_neg hed]
  · rw [if_neg he, if_neg (by omega), if_neg he]
theorem WF.setBay {S : ShelfM} (h : S.WF) (d : Int) {b : BayM} (hb : (b.state = 1 ∨ b.state = 2 ∨ b.state = 3) ∧ (b.state = 1 → (b.disk.n : Int) = S.cfg.sectors)) : (S.setBay d b).WF :=
  ⟨h.cfg, by simp only [ShelfM.setBay, List.length_set]; exact h.bays, fun x hx => by
    rcases List.mem_or_eq_of_mem_set hx with h1 | rfl
    · exact h.st x h1
    · exact hb, h.images, h.left⟩
theorem state_of {S : ShelfM} {d : Int} (h1 : 0 ≤ d) (h2 : d < (S.bays.length : Int)) : (⟨S.disk d, S.state d⟩ : BayM) ∈ S.bays := List.mem_of_getElem? (bay_of h1 h2)
theorem state_in {S : ShelfM} (h : S.WF) {d : Int} (h1 : S.state d ≠ 0) : 0 ≤ d ∧ d < (S.bays.length : Int) := by
  by_cases h2 : 0 ≤ d ∧ d < (S.bays.length : Int)
  · exact h2
  · exact absurd ((state_pos h).2 h2) h1
theorem WF.setDisk {S : ShelfM} (h : S.WF) {d : Int} (h0 : S.state d ≠ 0) {D : DiskM} (hD : D.n = (S.disk d).n) : (S.setDisk d D).WF := by
  obtain ⟨h1, h2⟩ := state_in h h0
  have h3 := h.st _ (state_of h1 h2)
  exact h.setBay d ⟨h3.1, fun h4 => by rw [hD]; exact h3.2 h4⟩
theorem disk_n {S : ShelfM} (h : S.WF) {d : Int} (h1 : S.state d = 1) : ((S.disk d).n : Int) = S.cfg.sectors := by
  obtain ⟨h2, h3⟩ := state_in h (d := d) (by omega)
  exact (h.st _ (state_of h2 h3)).2 h1
theorem number_lt {S : ShelfM} (h : S.WF) {a : PlaceM} (h0 : 0 ≤ S.number a) : S.state a.disk ≠ 0 ∧ 1 ≤ a.area ∧ a.area ≤ 4 ∧ 0 ≤ a.index ∧ a.index < S.cfg.size a.area ∧ S.number a = a.index + S.cfg.base a.area ∧ S.number a < S.cfg.sectors := by
  unfold number at h0 ⊢
  split at h0
  · omega
  · rename_i hn
    rw [if_neg hn]
    have := h.cfg.log; have := h.cfg.image; have := h.cfg.rows
    refine ⟨by omega, by omega, by omega, by omega, by omega, rfl, ?_⟩
    have h1 : 1 ≤ a.area ∧ a.area ≤ 4 ∧ a.index < S.cfg.size a.area := by omega
    unfold CfgM.size at h1
    unfold CfgM.base CfgM.sectors
    rcases (show a.area = 1 ∨ a.area = 2 ∨ a.area = 3 ∨ a.area = 4 by omega) with e | e | e | e <;> simp [e] at h1 ⊢ <;> omega
end ShelfM
def ptrV (p : Nat) : Value := .pointer (some ⟨p, 0, none⟩)
def cfgL (c : CfgM) : List Value := [.int .i64 c.disks, .int .i64 c.racks, .int .i64 c.rows, .int .i64 c.spare, .int .i64 c.log, .int .i64 c.image]
def baysL : List Nat → List BayM → List Value
  | p :: ps, b :: bs => ptrV p :: .int .i64 b.state :: baysL ps bs
  | _, _ => []
def disksAt (TD TS : TypeId) : List Nat → List DiskM → HProp
  | p :: ps, D :: Ds => diskAt TD TS p D * disksAt TD TS ps Ds
  | _, _ => emp
def shelfC (c : CfgM) (vb vi : Value) (off fused : Bool) (left : Int) : Array Value :=
  #[.int .i64 c.disks, .int .i64 c.racks, .int .i64 c.rows, .int .i64 c.spare, .int .i64 c.log, .int .i64 c.image, vb, vi, .bool off, .bool fused, .int .i64 left]
structure ShT where
  sh : TypeId
  bay : TypeId
  ptr : TypeId
  disk : TypeId
  sec : TypeId
def shelfV (T : ShT) (p : Nat) (S : ShelfM) (vb : Value) : HProp :=
  ex fun vi : Value => ex fun ps : List Nat => ex fun qs : List Nat => lift (S.WF ∧ ps.length = S.bays.length ∧ qs.length = S.images.length) *
    (pts p (.cells (shelfC S.cfg vb vi S.off S.fused S.left) T.sh (0, 0)) * (ownAt T.bay 2 vb S.bays.length (baysL ps S.bays) * (ownAt T.ptr 1 vi S.images.length (qs.map ptrV) *
      (disksAt T.disk T.sec ps (S.bays.map BayM.disk) * disksAt T.disk T.sec qs S.images))))
def shelfAt (T : ShT) (p : Nat) (S : ShelfM) : HProp := ex fun vb : Value => shelfV T p S vb
theorem shelfV_iff {T : ShT} {p : Nat} {S : ShelfM} {vb : Value} {w : World} {F : HProp} : Sat w (shelfV T p S vb * F) ↔ ∃ vi ps qs, (S.WF ∧ ps.length = S.bays.length ∧ qs.length = S.images.length) ∧
    Sat w (pts p (.cells (shelfC S.cfg vb vi S.off S.fused S.left) T.sh (0, 0)) * (ownAt T.bay 2 vb S.bays.length (baysL ps S.bays) * (ownAt T.ptr 1 vi S.images.length (qs.map ptrV) *
      (disksAt T.disk T.sec ps (S.bays.map BayM.disk) * (disksAt T.disk T.sec qs S.images * F))))) := by
  simp only [shelfV, Sat.ex, star_assoc, Sat.lift]
theorem shelfAt_V {T : ShT} {p : Nat} {S : ShelfM} {w : World} {F : HProp} : Sat w (shelfAt T p S * F) ↔ ∃ vb, Sat w (shelfV T p S vb * F) := by
  simp only [shelfAt, Sat.ex]
theorem shelfAt_iff {T : ShT} {p : Nat} {S : ShelfM} {w : World} {F : HProp} : Sat w (shelfAt T p S * F) ↔ ∃ vb vi ps qs, (S.WF ∧ ps.length = S.bays.length ∧ qs.length = S.images.length) ∧
    Sat w (pts p (.cells (shelfC S.cfg vb vi S.off S.fused S.left) T.sh (0, 0)) * (ownAt T.bay 2 vb S.bays.length (baysL ps S.bays) * (ownAt T.ptr 1 vi S.images.length (qs.map ptrV) *
      (disksAt T.disk T.sec ps (S.bays.map BayM.disk) * (disksAt T.disk T.sec qs S.images * F))))) := by
  simp only [shelfAt, shelfV, Sat.ex, star_assoc, Sat.lift]
theorem shelfAt_wf {T : ShT} {p : Nat} {S : ShelfM} {w : World} {F : HProp} (h : Sat w (shelfAt T p S * F)) : S.WF := by
  obtain ⟨_, _, _, _, h, _⟩ := shelfAt_iff.1 h; exact h.1
theorem disksAt_split {TD TS : TypeId} : ∀ (ps : List Nat) (Ds : List DiskM) (k : Nat), k < ps.length → k < Ds.length → ∃ R, ∀ q D, disksAt TD TS (ps.set k q) (Ds.set k D) = diskAt TD TS q D * R
  | p :: ps, D :: Ds, 0, _, _ => ⟨disksAt TD TS ps Ds, fun q D => rfl⟩
  | p :: ps, D :: Ds, k + 1, h1, h2 => by
    obtain ⟨R, hR⟩ := disksAt_split ps Ds k (by simpa using h1) (by simpa using h2)
    refine ⟨diskAt TD TS p D * R, fun q D' => ?_⟩
    show diskAt TD TS p D * disksAt TD TS (ps.set k q) (Ds.set k D') = _
    rw [hR]; ac_rfl
theorem disksAt_app {TD TS : TypeId} : ∀ (ps : List Nat) (Ds : List DiskM) (q : Nat) (D : DiskM), ps.length = Ds.length → disksAt TD TS (ps ++ [q]) (Ds ++ [D]) = disksAt TD TS ps Ds * diskAt TD TS q D
  | [], [], q, D, _ => by show diskAt TD TS q D * emp = emp * diskAt TD TS q D; rw [star_emp, emp_star]
  | p :: ps, E :: Ds, q, D, h => by
    show diskAt TD TS p E * disksAt TD TS (ps ++ [q]) (Ds ++ [D]) = diskAt TD TS p E * disksAt TD TS ps Ds * diskAt TD TS q D
    rw [disksAt_app ps Ds q D (by simpa using h), star_assoc]
  | [], _ :: _, _, _, h => by simp at h
  | _ :: _, [], _, _, h => by simp at h
theorem set_self {α : Type} {l : List α} {k : Nat} {x : α} (h : l[k]? = some x) : l.set k x = l := by
  apply List.ext_getElem?
  intro i
  rw [List.getElem?_set]
  split
  · subst i; rw [h]; split
    · rfl
    · rename_i h2; have := (List.getElem?_eq_some_iff.1 h).1; omega
  · rfl
theorem baysL_at : ∀ (ps : List Nat) (bs : List BayM) (k : Nat) (q : Nat) (b : BayM), ps[k]? = some q → bs[k]? = some b → (baysL ps bs)[k * 2]? = some (ptrV q) ∧ (baysL ps bs)[k * 2 + 1]? = some (.int .i64 b.state)
  | p :: ps, c :: bs, 0, q, b, h1, h2 => by simp at h1 h2; subst h1 h2; exact ⟨rfl, rfl⟩
  | p :: ps, c :: bs, k + 1, q, b, h1, h2 => by
    have := baysL_at ps bs k q b (by simpa using h1) (by simpa using h2)
    rw [show (k + 1) * 2 = k * 2 + 1 + 1 by omega]
    simp only [baysL, List.getElem?_cons_succ]
    exact this
  | [], _, _, _, _, h, _ => by simp at h
  | _ :: _, [], _, _, _, _, h => by simp at h
theorem baysL_set : ∀ (ps : List Nat) (bs : List BayM) (k : Nat) (q : Nat) (b : BayM), ps.length = bs.length → baysL (ps.set k q) (bs.set k b) = ((baysL ps bs).set (k * 2) (ptrV q)).set (k * 2 + 1) (.int .i64 b.state)
  | [], [], _, _, _, _ => rfl
  | p :: ps, c :: bs, 0, q, b, _ => rfl
  | p :: ps, c :: bs, k + 1, q, b, h => by
    have := baysL_set ps bs k q b (by simpa using h)
    rw [show (k + 1) * 2 = k * 2 + 1 + 1 by omega]
    simp only [List.set_cons_succ, baysL]
    rw [this]
  | [], _ :: _, _, _, _, h => by simp at h
  | _ :: _, [], _, _, _, h => by simp at h
theorem baysL_app : ∀ (ps : List Nat) (bs : List BayM) (q : Nat) (b : BayM), ps.length = bs.length → baysL (ps ++ [q]) (bs ++ [b]) = baysL ps bs ++ [ptrV q, .int .i64 b.state]
  | [], [], _, _, _ => rfl
  | p :: ps, c :: bs, q, b, h => by simp only [List.cons_append, baysL]; rw [baysL_app ps bs q b (by simpa using h)]
  | [], _ :: _, _, _, h => by simp at h
  | _ :: _, [], _, _, h => by simp at h
theorem Sat.drewN {w : World} {P : HProp} (h : Sat w P) (n : Nat) : Sat (w.drewN n) P := h
theorem Same.drewN {w w' : World} (h : Same w w') (n : Nat) : Same w (w'.drewN n) := h.trans ⟨rfl, rfl, rfl, Nat.le_refl _⟩
section
variable {w : World} {T : TypeId} {sz n : Nat} {v : Value} {xs : List Value} {F : HProp}
theorem ownAt_block (h : Sat w (ownAt T sz v n xs * F)) (hn : 0 < n) : ∃ g cap cur, v = .slice (some ⟨g, 0, none⟩) n cap ∧ g < w.heap.size ∧ (∀ j u, xs[j]? = some u → w.cell? ⟨g, j, none⟩ = some u) ∧ (∀ j, w.frozen? ⟨g, j, none⟩ = false) ∧
    Sat w (pts g (.cells cur T (0, 0)) * F) ∧ ∀ (w' : World) (G : HProp) (c' : Array Value), c'.size = cur.size → Sat w' (pts g (.cells c' T (0, 0)) * G) → Sat w' (ownAt T sz v n (c'.toList.take (n * sz)) * G) ∧ cur.toList.take (n * sz) = xs := by
  rcases ownAt_iff.1 h with ⟨_, rfl, _⟩ | ⟨g, cap, cur, ⟨rfl, h1, h2, h3, h4, h5⟩, hs⟩
  · omega
  · refine ⟨g, cap, cur, rfl, hs.lt, fun j u hu => ?_, thawed_at hs.block, hs, fun w' G c' hc hG => ⟨ownAt_iff.2 (.inr ⟨g, cap, c', ⟨rfl, h1, h2, by rw [hc, h3], rfl, ?_⟩, hG⟩), h4⟩⟩
    · rw [cells_at hs.block]
      rw [← h4, List.getElem?_take] at hu
      split at hu
      · rw [Array.getElem?_toList] at hu; exact hu
      · cases hu
    · rw [List.length_take, Array.length_toList, hc, h3]
      exact Nat.min_eq_left (Nat.mul_le_mul_right _ h1)
end
section
variable {T : ShT} {p : Nat} {S : ShelfM} {w : World} {F : HProp}
theorem shelf_cells {c : CfgM} {vb vi : Value} {off fused : Bool} {left : Int} {TH : TypeId} (h : Sat w (pts p (.cells (shelfC c vb vi off fused left) TH (0, 0)) * F)) :
    (w.cell? ⟨p, 6, none⟩ = some vb ∧ w.cell? ⟨p, 7, none⟩ = some vi ∧ w.cell? ⟨p, 8, none⟩ = some (.bool off) ∧ w.cell? ⟨p, 9, none⟩ = some (.bool fused) ∧ w.cell? ⟨p, 10, none⟩ = some (.int .i64 left)) ∧
    p < w.heap.size ∧ (∀ j, w.frozen? ⟨p, j, none⟩ = false) ∧ w.rangeAt p 0 (cfgL c) := by
  refine ⟨⟨cells_at h.block 6, cells_at h.block 7, cells_at h.block 8, cells_at h.block 9, cells_at h.block 10⟩, h.lt, thawed_at h.block, fun j u hu => ?_⟩
  rw [cells_at h.block, Nat.zero_add]
  have hj : j < 6 := (List.getElem?_eq_some_iff.1 hu).1
  rw [← hu]
  match j, hj with
  | 0, _ => rfl
  | 1, _ => rfl
  | 2, _ => rfl
  | 3, _ => rfl
  | 4, _ => rfl
  | 5, _ => rfl
theorem map_set_disk (l : List BayM) (k : Nat) (b : BayM) : (l.set k b).map BayM.disk = (l.map BayM.disk).set k b.disk := by rw [List.map_set]
theorem shelf_openV {vb : Value} (h : Sat w (shelfV T p S vb * F)) {d : Nat} (hd : d < S.bays.length) :
    ∃ (vi : Value) (ps qs : List Nat) (q : Nat) (R : HProp), (S.WF ∧ ps.length = S.bays.length ∧ qs.length = S.images.length) ∧ ps[d]? = some q ∧
      Sat w (pts p (.cells (shelfC S.cfg vb vi S.off S.fused S.left) T.sh (0, 0)) * (ownAt T.bay 2 vb S.bays.length (baysL ps S.bays) * (ownAt T.ptr 1 vi S.images.length (qs.map ptrV) *
        (diskAt T.disk T.sec q (S.disk d) * (R * (disksAt T.disk T.sec qs S.images * F)))))) ∧
      ∀ (q' : Nat) (b : BayM), disksAt T.disk T.sec (ps.set d q') ((S.bays.set d b).map BayM.disk) = diskAt T.disk T.sec q' b.disk * R := by
  obtain ⟨vi, ps, qs, ⟨hwf, h1, h2⟩, hs⟩ := shelfV_iff.1 h
  obtain ⟨q, hq⟩ : ∃ q, ps[d]? = some q := ⟨_, List.getElem?_eq_getElem (by omega)⟩
  obtain ⟨R, hR⟩ := disksAt_split (TD := T.disk) (TS := T.sec) ps (S.bays.map BayM.disk) d (by omega) (by simpa using hd)
  have hb : S.bays[d]? = some ⟨S.disk d, S.state d⟩ := by have := ShelfM.bay_of (S := S) (d := (d : Int)) (by omega) (by omega); simpa using this
  refine ⟨vi, ps, qs, q, R, ⟨hwf, h1, h2⟩, hq, ?_, fun q' b => by rw [map_set_disk]; exact hR q' b.disk⟩
  have e := hR q (S.disk d)
  rw [set_self hq, set_self (show (S.bays.map BayM.disk)[d]? = some (S.disk d) by rw [List.getElem?_map, hb]; rfl)] at e
  rw [e] at hs
  exact hs.perm (by ac_rfl)
theorem shelf_bayV {vb : Value} (h : Sat w (shelfV T p S vb * F)) {d : Nat} (hd : d < S.bays.length) :
    ∃ (g cap q : Nat) (vi : Value) (G : HProp), vb = .slice (some ⟨g, 0, none⟩) S.bays.length cap ∧ Sat w (pts p (.cells (shelfC S.cfg (.slice (some ⟨g, 0, none⟩) S.bays.length cap) vi S.off S.fused S.left) T.sh (0, 0)) * (diskAt T.disk T.sec q (S.disk d) * (F * G))) ∧
      (p ≠ g ∧ g < w.heap.size) ∧ w.cell? ⟨g, d * 2, none⟩ = some (ptrV q) ∧ w.cell? ⟨g, d * 2 + 1, none⟩ = some (.int .i64 (S.state d)) ∧ (∀ j, w.frozen? ⟨g, j, none⟩ = false) ∧
      (∀ (w' : World) (S' : ShelfM) (D : DiskM) (F' : HProp), S'.WF → S'.cfg = S.cfg → S'.images = S.images → S'.bays = S.bays.set d ⟨D, S.state d⟩ →
        Sat w' (pts p (.cells (shelfC S.cfg (.slice (some ⟨g, 0, none⟩) S.bays.length cap) vi S'.off S'.fused S'.left) T.sh (0, 0)) * (diskAt T.disk T.sec q D * (F' * G))) → Sat w' (shelfV T p S' vb * F')) ∧
      (∀ (w' : World) (x : Array Value) (D : DiskM) (F' : HProp), Sat w' (pts p (.cells x T.sh (0, 0)) * (diskAt T.disk T.sec q D * (F' * G))) → (∀ j u, j = d * 2 → u = ptrV q → w'.cell? ⟨g, j, none⟩ = some u) ∧ w'.cell? ⟨g, d * 2 + 1, none⟩ = some (.int .i64 (S.state d))) := by
  obtain ⟨vi, ps, qs, q, R, ⟨hwf, h1, h2⟩, hq, hs, hR⟩ := shelf_openV h hd
  have hs2 := hs.perm (show _ = ownAt T.bay 2 vb S.bays.length (baysL ps S.bays) * (pts p (.cells (shelfC S.cfg vb vi S.off S.fused S.left) T.sh (0, 0)) * (ownAt T.ptr 1 vi S.images.length (qs.map ptrV) *
        (diskAt T.disk T.sec q (S.disk d) * (R * (disksAt T.disk T.sec qs S.images * F))))) from by ac_rfl)
  obtain ⟨g, cap, cur, rfl, hg, hc, hf, hgs, _⟩ := ownAt_block hs2 (by omega)
  have hb : S.bays[d]? = some ⟨S.disk d, S.state d⟩ := by have := ShelfM.bay_of (S := S) (d := (d : Int)) (by omega) (by omega); simpa using this
  have hcell := baysL_at ps S.bays d q _ hq hb
  refine ⟨g, cap, q, vi, ownAt T.bay 2 (.slice (some ⟨g, 0, none⟩) S.bays.length cap) S.bays.length (baysL ps S.bays) * (ownAt T.ptr 1 vi S.images.length (qs.map ptrV) * (R * disksAt T.disk T.sec qs S.images)), rfl, hs.perm (by ac_rfl), ⟨hgs.ne.symm, hg⟩, hc _ _ hcell.1, hc _ _ hcell.2, hf, ?_, ?_⟩
  · intro w' S' D F' hw hcfg him hbs hS
    have e := hR q ⟨D, S.state d⟩
    rw [set_self hq] at e
    have eb : baysL ps S'.bays = baysL ps S.bays := by
      have := baysL_set ps S.bays d q ⟨D, S.state d⟩ h1
      rw [set_self hq] at this
      rw [hbs, this, set_self hcell.1, set_self hcell.2]
    refine shelfV_iff.2 ⟨vi, ps, qs, ⟨hw, by rw [hbs, List.length_set]; exact h1, by rw [him]; exact h2⟩, ?_⟩
    rw [eb, him, hbs, e, hcfg, List.length_set]
    exact hS.perm (by ac_rfl)
  · intro w' x D F' hS
    have hs3 := hS.perm (show _ = ownAt T.bay 2 (.slice (some ⟨g, 0, none⟩) S.bays.length cap) S.bays.length (baysL ps S.bays) * (pts p (.cells x T.sh (0, 0)) * (diskAt T.disk T.sec q D * (ownAt T.ptr 1 vi S.images.length (qs.map ptrV) * (R * (disksAt T.disk T.sec qs S.images * F'))))) from by ac_rfl)
    obtain ⟨g', cap', cur', hv, _, hc', _⟩ := ownAt_block hs3 (by omega)
    simp only [Value.slice.injEq, Option.some.injEq, Addr.mk.injEq, and_true, true_and] at hv
    obtain ⟨rfl, rfl⟩ := hv
    exact ⟨fun j u hj hu => by rw [hj, hu]; exact hc' _ _ hcell.1, hc' _ _ hcell.2⟩
theorem shelf_bay (h : Sat w (shelfAt T p S * F)) {d : Nat} (hd : d < S.bays.length) :
    ∃ (g cap q : Nat) (vi : Value) (G : HProp), Sat w (pts p (.cells (shelfC S.cfg (.slice (some ⟨g, 0, none⟩) S.bays.length cap) vi S.off S.fused S.left) T.sh (0, 0)) * (diskAt T.disk T.sec q (S.disk d) * (F * G))) ∧
      (p ≠ g ∧ g < w.heap.size) ∧ w.cell? ⟨g, d * 2, none⟩ = some (ptrV q) ∧ w.cell? ⟨g, d * 2 + 1, none⟩ = some (.int .i64 (S.state d)) ∧ (∀ j, w.frozen? ⟨g, j, none⟩ = false) ∧
      (∀ (w' : World) (S' : ShelfM) (D : DiskM) (F' : HProp), S'.WF → S'.cfg = S.cfg → S'.images = S.images → S'.bays = S.bays.set d ⟨D, S.state d⟩ →
        Sat w' (pts p (.cells (shelfC S.cfg (.slice (some ⟨g, 0, none⟩) S.bays.length cap) vi S'.off S'.fused S'.left) T.sh (0, 0)) * (diskAt T.disk T.sec q D * (F' * G))) → Sat w' (shelfAt T p S' * F')) ∧
      (∀ (w' : World) (x : Array Value) (D : DiskM) (F' : HProp), Sat w' (pts p (.cells x T.sh (0, 0)) * (diskAt T.disk T.sec q D * (F' * G))) → (∀ j u, j = d * 2 → u = ptrV q → w'.cell? ⟨g, j, none⟩ = some u) ∧ w'.cell? ⟨g, d * 2 + 1, none⟩ = some (.int .i64 (S.state d))) := by
  obtain ⟨vb, h⟩ := shelfAt_V.1 h
  obtain ⟨g, cap, q, vi, G, hv, hs, hpg, b0, b1, hf, hcl, hbc⟩ := shelf_bayV h hd
  exact ⟨g, cap, q, vi, G, hs, hpg, b0, b1, hf, fun w' S' D F' k1 k2 k3 k4 k5 => shelfAt_V.2 ⟨vb, hcl w' S' D F' k1 k2 k3 k4 k5⟩, hbc⟩
end
end Go.Sl
end
section
namespace Go.Proofs.YtmcclbiaoeilkaaGreat
open Go.RowKit Go.Sl Go.ChangeMaps
abbrev TSh : TypeId := 79
abbrev TBay : TypeId := 83
abbrev TPtr : TypeId := 80
abbrev TCfg : TypeId := 23
abbrev TPl : TypeId := 37
abbrev SH : ShT := ⟨TSh, TBay, TPtr, TD, TS⟩
abbrev cfgA (c : CfgM) : Array Value := #[.int .i64 c.disks, .int .i64 c.racks, .int .i64 c.rows, .int .i64 c.spare, .int .i64 c.log, .int .i64 c.image]
abbrev plA (a : PlaceM) : Array Value := #[.int .i64 a.disk, .int .i64 a.area, .int .i64 a.index]
set_option maxHeartbeats 400000 in
theorem state_any (p : Nat) (S : ShelfM) (F : HProp) (d : Int) (w : World) (hS : Sat w (shelfAt SH p S * F)) :
    Calls Tryz.prog 36 #[.pointer (some ⟨p, 0, none⟩), .int .i64 d] w fun e w' => e = .returned (.int .i64 (S.state d)) ∧ w = w' := by
  have hwf := shelfAt_wf hS
  by_cases h : 0 ≤ d ∧ d < (S.bays.length : Int)
  · obtain ⟨k, rfl⟩ := Int.eq_ofNat_of_zero_le h.1
    obtain ⟨g, cap, q, vi, G, hs, ⟨hpg, hg⟩, c0, c1, hf, _, _⟩ := shelf_bay hS (d := k) (by omega)
    obtain ⟨⟨q6, q7, q8, q9, q10⟩, hp, hfp, hra⟩ := shelf_cells hs
    have h2 := h.2
    obtain ⟨n, hn⟩ : ∃ n, S.bays.length = n := ⟨_, rfl⟩
    rw [hn] at q6 h2
    clear hs hS hwf h hf hfp hra hn
    go_enter Tryz.func36, Tryz.ntmps36
    go_wp2
    go_ret
    exact ⟨rfl, rfl⟩
  · have h0 := (ShelfM.state_pos hwf).2 h
    rw [h0]
    obtain ⟨vb, vi, ps, qs, ⟨_, h1, h2⟩, hs⟩ := shelfAt_iff.1 hS
    obtain ⟨⟨q6, q7, q8, q9, q10⟩, hp, hfp, hra⟩ := shelf_cells hs
    obtain ⟨ao, cap, rfl⟩ := ownAt_slice hs.right
    obtain ⟨n, hn⟩ : ∃ n, S.bays.length = n := ⟨_, rfl⟩
    rw [hn] at q6 h
    clear hs hS hwf h0 hfp hra hn h1 h2
    by_cases hd : d < 0
    · have hd' : decide (d < 0) = true := decide_eq_true hd
      clear hd h
      go_enter Tryz.func36, Tryz.ntmps36
      go_wp2
      go_ret
      exact ⟨rfl, rfl⟩
    · have hd' : decide (d < 0) = false := decide_eq_false hd
      have hd2 : decide ((n : Int) ≤ d) = true := decide_eq_true (by omega)
      clear hd h
      go_enter Tryz.func36, Tryz.ntmps36
      go_wp2
      go_ret
      exact ⟨rfl, rfl⟩
theorem infoTCfg (c : CfgM) : (Tryz.prog.info? TCfg).map (·.size) = some (cfgA c).size := by
  show _ = some 6
  kernel_rfl
set_option maxHeartbeats 400000 in
theorem sizes_any (c : CfgM) (w : World) : Calls Tryz.prog 84 #[.agg (cfgA c)] w fun e w' => e = .returned (.agg #[.int .i64 c.log, .int .i64 c.image, .int .i64 c.image, .int .i64 c.rows]) ∧ Below w.heap.size w w' := by
  go_enter Tryz.func84, Tryz.ntmps84
  go_wp2
  refine bodyPost_ret (v := .agg #[.int .i64 c.log, .int .i64 c.image, .int .i64 c.image, .int .i64 c.rows]) (by simp [results, Tryz.results84, go_sem]) rfl ⟨rfl, ?_⟩
  exact ((Below.refl _ _).alloc (Nat.le_refl _) _).alloc (by simp) _
def psum (c : CfgM) (k : Nat) : Int := match k with | 0 => 0 | 1 => c.log | 2 => c.log + c.image | 3 => c.log + c.image + c.image | _ => c.sectors
structure SecSt (w1 : World) (c : CfgM) (n i : Value) (wr : World) : Prop where
  st : wr = w1 ∧ ∃ k : Nat, k ≤ 4 ∧ i = .int .i64 k ∧ n = .int .i64 (psum c k)
set_option maxHeartbeats 400000 in
theorem sectors_any (c : CfgM) (w : World) (h1 : 0 ≤ c.log ∧ c.log ≤ 65536) (h2 : 0 ≤ c.image ∧ c.image ≤ 65536) (h3 : 0 ≤ c.rows ∧ c.rows ≤ 65536) :
    Calls Tryz.prog 29 #[.agg (cfgA c)] w fun e w' => e = .returned (.int .i64 c.sectors) ∧ Below w.heap.size w w' := by
  obtain ⟨l, hl⟩ : ∃ l, c.log = l := ⟨_, rfl⟩
  obtain ⟨i, hi⟩ : ∃ i, c.image = i := ⟨_, rfl⟩
  obtain ⟨r, hr⟩ : ∃ r, c.rows = r := ⟨_, rfl⟩
  have HL := Lib.hid hl
  have HI := Lib.hid hi
  have HR := Lib.hid hr
  rw [hl] at h1; rw [hi] at h2; rw [hr] at h3
  have hps : ∀ k, psum c k = match k with | 0 => 0 | 1 => l | 2 => l + i | 3 => l + i + i | _ => l + i + i + r := by
    intro k; rw [← hl, ← hi, ← hr]; rfl
  have HPS := Lib.hid hps
  have HE := Lib.hid (show c.sectors = l + i + i + r from HPS.out 4)
  clear hl hi hr hps
  have i0 : ∀ w, (Instr.index 125 (.agg #[.int .i64 l, .int .i64 i, .int .i64 i, .int .i64 r]) (.int .i64 0)).run Tryz.prog w = .ok (.int .i64 l) w := fun _ => by kernel_rfl
  have i1 : ∀ w, (Instr.index 125 (.agg #[.int .i64 l, .int .i64 i, .int .i64 i, .int .i64 r]) (.int .i64 1)).run Tryz.prog w = .ok (.int .i64 i) w := fun _ => by kernel_rfl
  have i2 : ∀ w, (Instr.index 125 (.agg #[.int .i64 l, .int .i64 i, .int .i64 i, .int .i64 r]) (.int .i64 2)).run Tryz.prog w = .ok (.int .i64 i) w := fun _ => by kernel_rfl
  have i3 : ∀ w, (Instr.index 125 (.agg #[.int .i64 l, .int .i64 i, .int .i64 i, .int .i64 r]) (.int .i64 3)).run Tryz.prog w = .ok (.int .i64 r) w := fun _ => by kernel_rfl
  go_enter Tryz.func29, Tryz.ntmps29
  go_wp2_with (go_at_call 84; refine (sizes_any c _).mono ?_; rintro e w1 ⟨rfl, hb⟩; rw [HL.out, HI.out, HR.out]; have HB := Lib.hid hb; clear hb)
  go_loopw [3, 5, 8] (fun n _ i wr => SecSt w1 c n i wr) (fun _ _ i _ => 4 - (intOf i).toNat)
  case atStart => exact ⟨rfl, 0, by omega, rfl, rfl⟩
  case round =>
    obtain ⟨rfl, k, hk, rfl, rfl⟩ := hrel.st
    clear hrel
    have e := HPS.out k
    rcases (show k = 0 ∨ k = 1 ∨ k = 2 ∨ k = 3 ∨ k = 4 by omega) with rfl | rfl | rfl | rfl | rfl
    all_goals (simp only at e; rw [e]; clear e hk)
    · go_wp2
      go_roundw
      case rel => exact ⟨rfl, 1, by omega, rfl, by rw [HPS.out 1]; simp⟩
      case measure => simp [intOf]
    · go_wp2
      go_roundw
      case rel => exact ⟨rfl, 2, by omega, rfl, by rw [HPS.out 2]; rfl⟩
      case measure => simp [intOf]
    · go_wp2
      go_roundw
      case rel => exact ⟨rfl, 3, by omega, rfl, by rw [HPS.out 3]; rfl⟩
      case measure => simp [intOf]
    · go_wp2
      go_roundw
      case rel => exact ⟨rfl, 4, by omega, rfl, by rw [HPS.out 4]; rfl⟩
      case measure => simp [intOf]
    · go_wp2
      go_ret
      exact ⟨by rw [HE.out]; rfl, Below.trans ((Below.refl _ _).alloc (Nat.le_refl _) _) (HB.out.mono (by simp))⟩
theorem load_cfg {w' : World} {p : Nat} {c : CfgM} (h : w'.rangeAt p 0 (cfgL c)) : (Instr.loadAt TCfg (.pointer (some ⟨p, 0, none⟩))).run Tryz.prog w' = .ok (.agg (cfgA c)) w' := by
  have := run_loadAt_mid w' p 0 TCfg (cfgL c) _ h Tryz.underlying23 rfl (by rw [infoTCfg c]; rfl)
  exact this
set_option maxHeartbeats 400000 in
theorem config_any (p : Nat) (S : ShelfM) (F : HProp) (w : World) (hS : Sat w (shelfAt SH p S * F)) :
    Calls Tryz.prog 26 #[.pointer (some ⟨p, 0, none⟩)] w fun e w' => e = .returned (.agg (cfgA S.cfg)) ∧ Below w.heap.size w w' := by
  obtain ⟨vb, vi, ps, qs, ⟨_, h1, h2⟩, hs⟩ := shelfAt_iff.1 hS
  obtain ⟨⟨q6, q7, q8, q9, q10⟩, hp, hfp, hra⟩ := shelf_cells hs
  have c0 := hra 0 _ rfl
  have c1 := hra 1 _ rfl
  have c2 := hra 2 _ rfl
  have c3 := hra 3 _ rfl
  have c4 := hra 4 _ rfl
  have c5 := hra 5 _ rfl
  simp only [Nat.zero_add] at c0 c1 c2 c3 c4 c5
  generalize S.cfg = c at *
  clear hs hS hfp hra h1 h2
  go_enter Tryz.func26, Tryz.ntmps26
  go_wp2
  refine bodyPost_ret (v := .agg (cfgA c)) (by simp [results, Tryz.results26, go_sem]) rfl ⟨rfl, ?_⟩
  exact (Below.refl _ _).alloc (Nat.le_refl _) _
set_option maxHeartbeats 400000 in
theorem access_any (p : Nat) (S : ShelfM) (F : HProp) (d : Int) (w : World) (hS : Sat w (shelfAt SH p S * F)) (hd : S.state d ≠ 0) :
    Calls Tryz.prog 120 #[.pointer (some ⟨p, 0, none⟩), .int .i64 d] w fun e w' => e = .returned (.int .i64 (S.access d)) ∧ w = w' := by
  have hwf := shelfAt_wf hS
  have h := ShelfM.state_in hwf hd
  obtain ⟨k, rfl⟩ := Int.eq_ofNat_of_zero_le h.1
  obtain ⟨g, cap, q, vi, G, hs, ⟨hpg, hg⟩, c0, c1, hf, _, _⟩ := shelf_bay hS (d := k) (by omega)
  obtain ⟨⟨q6, q7, q8, q9, q10⟩, hp, hfp, hra⟩ := shelf_cells hs
  have h2 := h.2
  obtain ⟨n, hn⟩ : ∃ n, S.bays.length = n := ⟨_, rfl⟩
  rw [hn] at q6 h2
  have hacc : S.access (k : Int) = if S.off then 14 else if S.state k = 1 then 0 else 15 := rfl
  rw [hacc]
  generalize S.state k = st at *
  clear hs hS hwf h hf hfp hra hn hacc hd
  cases ho : S.off
  · rw [ho] at q8
    clear ho
    by_cases h1 : st = 1
    · subst h1
      go_enter Tryz.func120, Tryz.ntmps120
      go_wp2
      go_ret
      exact ⟨rfl, rfl⟩
    · have hb : (st != 1) = true := by simp [h1]
      rw [if_neg h1]
      clear h1
      go_enter Tryz.func120, Tryz.ntmps120
      go_wp2
      go_ret
      exact ⟨rfl, rfl⟩
  · rw [ho] at q8
    clear ho
    go_enter Tryz.func120, Tryz.ntmps120
    go_wp2
    go_ret
    exact ⟨rfl, rfl⟩
theorem Sat.shelfSetV {p : Nat} {S S' : ShelfM} {vb : Value} {F : HProp} {w w' : World} (hS : Sat w (shelfV SH p S vb * F)) (hwf : S'.WF) (h1 : S'.cfg = S.cfg) (h2 : S'.bays = S.bays) (h3 : S'.images = S.images)
    (hk : ∀ (c c' : Array Value) (vb vi : Value) (G : HProp), c = shelfC S.cfg vb vi S.off S.fused S.left → c' = shelfC S.cfg vb vi S'.off S'.fused S'.left → Sat w (pts p (.cells c TSh (0, 0)) * G) → Sat w' (pts p (.cells c' TSh (0, 0)) * G)) :
    Sat w' (shelfV SH p S' vb * F) := by
  obtain ⟨vi, ps, qs, ⟨_, h4, h5⟩, hs⟩ := shelfV_iff.1 hS
  refine shelfV_iff.2 ⟨vi, ps, qs, ⟨hwf, by rw [h2]; exact h4, by rw [h3]; exact h5⟩, ?_⟩
  rw [h1, h2, h3]
  exact hk _ _ _ _ _ rfl rfl hs
theorem Sat.shelfSet {p : Nat} {S S' : ShelfM} {F : HProp} {w w' : World} (hS : Sat w (shelfAt SH p S * F)) (hwf : S'.WF) (h1 : S'.cfg = S.cfg) (h2 : S'.bays = S.bays) (h3 : S'.images = S.images)
    (hk : ∀ (c c' : Array Value) (vb vi : Value) (G : HProp), c = shelfC S.cfg vb vi S.off S.fused S.left → c' = shelfC S.cfg vb vi S'.off S'.fused S'.left → Sat w (pts p (.cells c TSh (0, 0)) * G) → Sat w' (pts p (.cells c' TSh (0, 0)) * G)) :
    Sat w' (shelfAt SH p S' * F) := by
  obtain ⟨vb, hS⟩ := shelfAt_V.1 hS
  exact shelfAt_V.2 ⟨vb, Sat.shelfSetV hS hwf h1 h2 h3 hk⟩
end Go.Proofs.YtmcclbiaoeilkaaGreat
end
