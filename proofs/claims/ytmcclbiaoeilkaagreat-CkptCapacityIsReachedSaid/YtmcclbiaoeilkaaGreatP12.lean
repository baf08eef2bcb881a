import Derived.Test.YtmcclbiaoeilkaaGreatP07
import Derived.Test.YtmcclbiaoeilkaaGreatP11
/- Part 12 of a proof; the last part says what is proved. -/
section
namespace Go.Sl
open Go Go.RowKit
namespace ShelfM
theorem new_bay (c : CfgM) {d : Int} (h0 : 0 ≤ d) (h1 : d < c.disks) : (new c).bay d = some ⟨DiskM.new c.sectors, 1⟩ := by
  rw [bay_some]
  refine ⟨h0, ?_⟩
  show (List.replicate c.disks.toNat _)[d.toNat]? = _
  rw [List.getElem?_replicate, if_pos (by omega)]
theorem bay_state {S : ShelfM} {d : Int} {b : BayM} (h : S.bay d = some b) : S.state d = b.state := by unfold state; rw [h]
theorem bay_disk {S : ShelfM} {d : Int} {b : BayM} (h : S.bay d = some b) : S.disk d = b.disk := by unfold disk; rw [h]
theorem setDisk_bay {S : ShelfM} {d e : Int} {D : DiskM} (h1 : 0 ≤ d) (h2 : d < (S.bays.length : Int)) : (S.setDisk d D).bay e = if e = d then some ⟨D, S.state d⟩ else S.bay e := setBay_state h1 h2
theorem setDisk_state {S : ShelfM} {d e : Int} {D : DiskM} (h1 : 0 ≤ d) (h2 : d < (S.bays.length : Int)) : (S.setDisk d D).state e = S.state e := by
  unfold state
  rw [setDisk_bay h1 h2]
  by_cases he : e = d
  · subst he; rw [if_pos rfl]; rfl
  · rw [if_neg he]
theorem setDisk_disk {S : ShelfM} {d e : Int} {D : DiskM} (h1 : 0 ≤ d) (h2 : d < (S.bays.length : Int)) : (S.setDisk d D).disk e = if e = d then D else S.disk e := by
  unfold disk
  rw [setDisk_bay h1 h2]
  by_cases he : e = d
  · subst he; rw [if_pos rfl, if_pos rfl]
  · rw [if_neg he, if_neg he]
theorem step_run {S : ShelfM} {d : Int} {f : DiskM → DiskM} (h1 : S.off = false) (h2 : S.state d = 1) (h3 : S.fused = false) : S.step d f = (S.setDisk d (f (S.disk d)), 0) := by
  unfold step
  rw [if_neg (by simp [h1]), if_neg (by simp [h2]), if_neg (by simp [h3])]
end ShelfM
namespace DiskM
theorem has_of {D : DiskM} {n : Int} (h0 : 0 ≤ n) (h1 : n < (D.n : Int)) : D.has n = true := has_iff.2 ⟨h0, h1⟩
theorem write_ok {D : DiskM} {n : Nat} {s : List UInt8} (h : n < D.n) (hs : s.length = 64) (ha : D.armed n = none) : D.write (n : Int) s = ({ D with cache := fupd D.cache n (some s) }, 0) := by
  unfold write
  rw [if_pos ⟨has_of (by omega) (by omega), hs⟩]
  unfold put
  rw [Int.toNat_natCast, ha]
end DiskM
namespace ShelfM
theorem cutBays_state : ∀ (l : List BayM) (p : List Int) (j : Nat), ((cutBays l p)[j]?).map BayM.state = (l[j]?).map BayM.state
  | [], _, _ => rfl
  | b :: r, p, 0 => by
    show ((if b.state = 1 then _ else _)[0]?).map BayM.state = _
    split
    · rename_i h; simp [h]
    · rfl
  | b :: r, p, j + 1 => by
    show ((if b.state = 1 then _ else _)[j + 1]?).map BayM.state = _
    split
    · rw [List.getElem?_cons_succ, List.getElem?_cons_succ]; exact cutBays_state r _ j
    · rw [List.getElem?_cons_succ, List.getElem?_cons_succ]; exact cutBays_state r _ j
theorem state_eq (S : ShelfM) (d : Int) : S.state d = if 0 ≤ d then ((S.bays[d.toNat]?).map BayM.state).getD 0 else 0 := by
  unfold state bay
  by_cases h : 0 ≤ d
  · rw [if_pos h, if_pos h]
    cases S.bays[d.toNat]? <;> rfl
  · rw [if_neg h, if_neg h]
theorem mount_state (S : ShelfM) (p : List Int) (d : Int) : (S.mount p).state d = S.state d := by
  rw [state_eq, state_eq]
  show (if 0 ≤ d then (((cutBays S.bays p)[d.toNat]?).map BayM.state).getD 0 else 0) = _
  rw [cutBays_state]
end ShelfM
end Go.Sl
end
section
namespace Go.Proofs.YtmcclbiaoeilkaaGreat
open Go.RowKit Go.Sl Go.ChangeMaps
def subL (s : List UInt8) (i j : Nat) : List UInt8 := (s.drop i).take (j - i)
def headL (a : PlaceM) (g : GenM) : List UInt8 := [UInt8.ofNat a.area.toNat, UInt8.ofNat a.disk.toNat] ++ leL a.index.toNat 2 ++ leL g.epoch.toNat 4 ++ leL g.count.toNat 4
def zerosL (n : Nat) : List UInt8 := List.replicate n 0
def bodyL (a : PlaceM) (g : GenM) (p : List UInt8) : List UInt8 := headL a g ++ p ++ zerosL (40 - p.length) ++ leL g.epoch.toNat 4 ++ leL g.count.toNat 4
def sealL (a : PlaceM) (g : GenM) (p : List UInt8) : List UInt8 := leL (crcM (bodyL a g p)).toNat 4 ++ bodyL a g p
def sealOK (a : PlaceM) (g : GenM) (p : List UInt8) : Bool := placeOK a && genOK g && decide (p.length ≤ 40)
def genAt (s : List UInt8) (i : Nat) : GenM := ⟨(getM (subL s i (i + 4)) : Int), (getM (subL s (i + 4) (i + 8)) : Int)⟩
def placeAt (s : List UInt8) : PlaceM := ⟨((s.getD 5 0).toNat : Int), ((s.getD 4 0).toNat : Int), (getM (subL s 6 8) : Int)⟩
def labelOK (s : List UInt8) : Bool := decide (getM (subL s 0 4) = (crcM (s.drop 4)).toNat) && placeOK (placeAt s) && genOK (genAt s 8) && decide (subL s 8 16 = s.drop 56)
def openM (a : PlaceM) (s : List UInt8) : Option (GenM × List UInt8) :=
  if placeOK a = true ∧ s.length = 64 ∧ labelOK s = true ∧ placeAt s = a then some (genAt s 8, subL s 16 56) else none
theorem getM_leL : ∀ (m n : Nat), getM (leL n m) = n % 256 ^ m
  | 0, n => by simp [leL, getM, Nat.mod_one]
  | m + 1, n => by
    have h : (leB n m).toNat = n / 256 ^ m % 256 := by unfold leB; rw [UInt8.toNat_ofNat']
    rw [leL_succ, getM_snoc, getM_leL m, leL_length, h, Nat.pow_succ, Nat.mod_mul, Nat.mul_comm (256 ^ m)]
theorem getM_leL_lt {m n : Nat} (h : n < 256 ^ m) : getM (leL n m) = n := by rw [getM_leL, Nat.mod_eq_of_lt h]
theorem headL_length (a : PlaceM) (g : GenM) : (headL a g).length = 12 := by simp [headL, leL_length]
theorem bodyL_length {a : PlaceM} {g : GenM} {p : List UInt8} (h : p.length ≤ 40) : (bodyL a g p).length = 60 := by
  simp [bodyL, headL_length, leL_length, zerosL]; omega
theorem sealL_length {a : PlaceM} {g : GenM} {p : List UInt8} (h : p.length ≤ 40) : (sealL a g p).length = 64 := by
  simp [sealL, leL_length, bodyL_length h]
theorem subL_app {x y z : List UInt8} {i j : Nat} (hx : x.length = i) (hy : y.length = j - i) : subL (x ++ (y ++ z)) i j = y := by
  unfold subL
  rw [← hx, List.drop_left, hx, ← hy, List.take_left]
theorem drop_app {x y : List UInt8} {i : Nat} (hx : x.length = i) : (x ++ y).drop i = y := by rw [← hx, List.drop_left]
theorem genOK_iff {g : GenM} : genOK g = true ↔ 0 ≤ g.epoch ∧ 0 ≤ g.count ∧ g.epoch < 4294967296 ∧ g.count < 4294967296 ∧ g ≠ g0 := by
  unfold genOK
  simp only [Bool.and_eq_true, decide_eq_true_eq]
  constructor
  · rintro ⟨⟨h1, h2⟩, h3⟩; exact ⟨by omega, by omega, by omega, by omega, h3⟩
  · rintro ⟨h1, h2, h3, h4, h5⟩; exact ⟨⟨by omega, by omega⟩, h5⟩
theorem placeOK_iff {a : PlaceM} : placeOK a = true ↔ 0 ≤ a.disk ∧ a.disk < 64 ∧ 1 ≤ a.area ∧ a.area ≤ 4 ∧ 0 ≤ a.index ∧ a.index < 65536 := by
  unfold placeOK
  simp only [Bool.and_eq_true, decide_eq_true_eq]
  constructor
  · rintro ⟨⟨⟨⟨⟨h1, h2⟩, h3⟩, h4⟩, h5⟩, h6⟩; exact ⟨h1, h2, h3, h4, h5, h6⟩
  · rintro ⟨h1, h2, h3, h4, h5, h6⟩; exact ⟨⟨⟨⟨⟨h1, h2⟩, h3⟩, h4⟩, h5⟩, h6⟩
theorem gen_leL {g : GenM} (h : genOK g = true) : (⟨(getM (leL g.epoch.toNat 4) : Int), (getM (leL g.count.toNat 4) : Int)⟩ : GenM) = g := by
  obtain ⟨h1, h2, h3, h4, _⟩ := genOK_iff.1 h
  rw [getM_leL_lt (by omega), getM_leL_lt (by omega)]
  obtain ⟨e, c⟩ := g
  simp only at h1 h2 ⊢
  rw [Int.toNat_of_nonneg h1, Int.toNat_of_nonneg h2]
theorem u8_ofNat_toNat {n : Nat} (h : n < 256) : (UInt8.ofNat n).toNat = n := by rw [UInt8.toNat_ofNat']; exact Nat.mod_eq_of_lt h
theorem sealL_parts (a : PlaceM) (g : GenM) {p : List UInt8} (h : p.length ≤ 40) :
    subL (sealL a g p) 0 4 = leL (crcM (bodyL a g p)).toNat 4 ∧ (sealL a g p).drop 4 = bodyL a g p ∧ (sealL a g p).getD 4 0 = UInt8.ofNat a.area.toNat ∧ (sealL a g p).getD 5 0 = UInt8.ofNat a.disk.toNat ∧
    subL (sealL a g p) 6 8 = leL a.index.toNat 2 ∧ subL (sealL a g p) 8 12 = leL g.epoch.toNat 4 ∧ subL (sealL a g p) 12 16 = leL g.count.toNat 4 ∧
    subL (sealL a g p) 8 16 = leL g.epoch.toNat 4 ++ leL g.count.toNat 4 ∧ (sealL a g p).drop 56 = leL g.epoch.toNat 4 ++ leL g.count.toNat 4 ∧ subL (sealL a g p) 16 56 = p ++ zerosL (40 - p.length) := by
  have hl4 : ∀ n, (leL n 4).length = 4 := fun n => leL_length n 4
  have hl2 : ∀ n, (leL n 2).length = 2 := fun n => leL_length n 2
  have hz : (zerosL (40 - p.length)).length = 40 - p.length := by simp [zerosL]
  generalize hc : leL (crcM (bodyL a g p)).toNat 4 = c
  have hcl : c.length = 4 := by rw [← hc, hl4]
  have he : sealL a g p = c ++ bodyL a g p := by rw [sealL, hc]
  have h2 : (leL g.epoch.toNat 4).length = 4 := hl4 _
  have h3 : (leL g.count.toNat 4).length = 4 := hl4 _
  have h4 : (leL a.index.toNat 2).length = 2 := hl2 _
  rw [he]
  refine ⟨?_, drop_app hcl, ?_, ?_, ?_⟩
  · have := subL_app (x := []) (y := c) (z := bodyL a g p) (i := 0) (j := 4) rfl hcl
    simpa using this
  · unfold bodyL headL
    rw [List.getD_eq_getElem?_getD, List.getElem?_append_right (by omega)]
    simp [hcl]
  · unfold bodyL headL
    rw [List.getD_eq_getElem?_getD, List.getElem?_append_right (by omega)]
    simp [hcl]
  unfold bodyL headL
  generalize leL g.epoch.toNat 4 = e at *
  generalize leL g.count.toNat 4 = k at *
  generalize leL a.index.toNat 2 = x at *
  generalize zerosL (40 - p.length) = z at *
  generalize UInt8.ofNat a.area.toNat = u
  generalize UInt8.ofNat a.disk.toNat = v
  refine ⟨?_, ?_, ?_, ?_, ?_, ?_⟩
  · exact (congrArg (fun t => subL t 6 8) (by simp [List.append_assoc] : _ = (c ++ [u, v]) ++ (x ++ (e ++ k ++ p ++ z ++ e ++ k)))).trans (subL_app (by simp [hcl]) (by simp [h4]))
  · exact (congrArg (fun t => subL t 8 12) (by simp [List.append_assoc] : _ = (c ++ [u, v] ++ x) ++ (e ++ (k ++ p ++ z ++ e ++ k)))).trans (subL_app (by simp [hcl, h4]) (by simp [h2]))
  · exact (congrArg (fun t => subL t 12 16) (by simp [List.append_assoc] : _ = (c ++ [u, v] ++ x ++ e) ++ (k ++ (p ++ z ++ e ++ k)))).trans (subL_app (by simp [hcl, h4, h2]) (by simp [h3]))
  · exact (congrArg (fun t => subL t 8 16) (by simp [List.append_assoc] : _ = (c ++ [u, v] ++ x) ++ ((e ++ k) ++ (p ++ z ++ e ++ k)))).trans (subL_app (by simp [hcl, h4]) (by simp [h2, h3]))
  · exact (congrArg (fun t => List.drop 56 t) (by simp [List.append_assoc] : _ = (c ++ [u, v] ++ x ++ e ++ k ++ p ++ z) ++ (e ++ k))).trans (drop_app (by simp [hcl, h4, h2, h3, hz]; omega))
  · exact (congrArg (fun t => subL t 16 56) (by simp [List.append_assoc] : _ = (c ++ [u, v] ++ x ++ e ++ k) ++ ((p ++ z) ++ (e ++ k)))).trans (subL_app (by simp [hcl, h4, h2, h3]) (by simp [hz]; omega))
theorem open_seal {a : PlaceM} {g : GenM} {p : List UInt8} (h : sealOK a g p = true) : openM a (sealL a g p) = some (g, p ++ zerosL (40 - p.length)) := by
  unfold sealOK at h
  simp only [Bool.and_eq_true, decide_eq_true_eq] at h
  obtain ⟨⟨ha, hg⟩, hp⟩ := h
  obtain ⟨e1, e2, e3, e4, e5, e6, e7, e8, e9, e10⟩ := sealL_parts a g hp
  have hgen : genAt (sealL a g p) 8 = g := by
    show (⟨(getM (subL (sealL a g p) 8 12) : Int), (getM (subL (sealL a g p) 12 16) : Int)⟩ : GenM) = g
    rw [e6, e7]; exact gen_leL hg
  have hpl : placeAt (sealL a g p) = a := by
    obtain ⟨h1, h2, h3, h4, h5, h6⟩ := placeOK_iff.1 ha
    unfold placeAt
    rw [e3, e4, e5, getM_leL_lt (by omega), u8_ofNat_toNat (by omega), u8_ofNat_toNat (by omega), Int.toNat_of_nonneg h1, Int.toNat_of_nonneg (by omega), Int.toNat_of_nonneg h5]
  have hcrc : getM (leL (crcM (bodyL a g p)).toNat 4) = (crcM (bodyL a g p)).toNat := getM_leL_lt (crcM (bodyL a g p)).toNat_lt
  have hlab : labelOK (sealL a g p) = true := by
    unfold labelOK
    rw [e1, e2, e8, e9, hgen, hpl, ha, hg, hcrc]
    simp
  unfold openM
  rw [if_pos ⟨ha, sealL_length hp, hlab, hpl⟩, hgen, e10]
structure TailM where
  next : Int
  number : Int
  gen : GenM
  deriving DecidableEq
def t0 : TailM := ⟨0, 0, g0⟩
def genV (g : GenM) : Bool := decide (0 ≤ min g.epoch g.count) && decide (max g.epoch g.count < 4294967296)
def tailV (t : TailM) : Bool := decide (0 ≤ min t.next t.number) && decide (max t.next t.number ≤ 2147483647) && genV t.gen
def sizeM (n : Int) : Int := if n < 0 then 0 else max 1 ((n + 25) / 26)
structure PartM where
  gen : GenM
  before : GenM
  number : Int
  left : Int
  bytes : List UInt8
  deriving DecidableEq
def partM (x : GenM × List UInt8) : PartM :=
  ⟨x.1, ⟨(getM (subL x.2 6 10) : Int), (getM (subL x.2 10 14) : Int)⟩, (getM (subL x.2 0 4) : Int), (getM (subL x.2 4 6) : Int), subL x.2 14 (14 + min 26 (getM (subL x.2 4 6)))⟩
def readL (f : Nat → List UInt8) (N : Nat) (d : Int) (i : Nat) : Option PartM := if N ≤ i then none else (openM ⟨d, 1, (i : Int)⟩ (f i)).map partM
def restL (f : Nat → List UInt8) (N : Nat) (d : Int) (t : Nat) (x : PartM) : Nat → Nat → Option (List UInt8)
  | _, 0 => some []
  | i, k + 1 => match readL f N d (t + i) with
    | none => none
    | some p => if p.gen ≠ x.gen ∨ p.number ≠ x.number ∨ p.before ≠ x.before ∨ p.left ≠ x.left - 26 * (i : Int) then none else (restL f N d t x (i + 1) k).map (p.bytes ++ ·)
def firstOK (t : TailM) (x : PartM) : Prop := newerM x.gen t.gen = true ∧ x.number = t.number + 1 ∧ x.before = t.gen ∧ x.left ≤ 4096
instance (t : TailM) (x : PartM) : Decidable (firstOK t x) := by unfold firstOK; infer_instance
def nextL (f : Nat → List UInt8) (N : Nat) (d : Int) (t : TailM) : Option (List UInt8 × TailM) :=
  match readL f N d t.next.toNat with
  | none => none
  | some x => if firstOK t x then (restL f N d t.next.toNat x 1 ((sizeM x.left).toNat - 1)).map fun r => (x.bytes ++ r, ⟨t.next + sizeM x.left, x.number, x.gen⟩) else none
inductive ChainL (f : Nat → List UInt8) (N : Nat) (d : Int) : TailM → List (List UInt8) → TailM → Prop
  | nil (t : TailM) : ChainL f N d t [] t
  | cons {t t1 t2 : TailM} {r : List UInt8} {l : List (List UInt8)} (h : nextL f N d t = some (r, t1)) (hr : ChainL f N d t1 l t2) : ChainL f N d t (r :: l) t2
def ScanL (f : Nat → List UInt8) (N : Nat) (d : Int) (t : TailM) (l : List (List UInt8)) (t' : TailM) : Prop := ChainL f N d t l t' ∧ nextL f N d t' = none
theorem ChainL.snoc {f : Nat → List UInt8} {N : Nat} {d : Int} {t t1 t2 : TailM} {l : List (List UInt8)} {r : List UInt8} (h : ChainL f N d t l t1) (hn : nextL f N d t1 = some (r, t2)) : ChainL f N d t (l ++ [r]) t2 := by
  induction h with
  | nil t => exact .cons hn (.nil _)
  | cons h _ ih => exact .cons h (ih hn)
theorem ChainL.end_eq {f : Nat → List UInt8} {N : Nat} {d : Int} {t t1 t2 : TailM} {l : List (List UInt8)} (h : ChainL f N d t l t1) (h2 : ChainL f N d t l t2) : t1 = t2 := by
  induction h with
  | nil t => cases h2; rfl
  | cons h _ ih =>
    cases h2 with
    | cons h' hr' =>
      rw [h] at h'
      cases h'
      exact ih hr'
theorem readL_congr {f f' : Nat → List UInt8} {N : Nat} {d : Int} {i : Nat} (h : f i = f' i) : readL f N d i = readL f' N d i := by unfold readL; rw [h]
theorem restL_congr {f f' : Nat → List UInt8} {N : Nat} {d : Int} {t : Nat} {x : PartM} : ∀ (k i : Nat), (∀ j, t + i ≤ j → j < t + i + k → f j = f' j) → restL f N d t x i k = restL f' N d t x i k
  | 0, _, _ => rfl
  | k + 1, i, h => by
    unfold restL
    rw [readL_congr (h (t + i) (Nat.le_refl _) (by omega)), restL_congr k (i + 1) fun j h1 h2 => h j (by omega) (by omega)]
theorem size_pos {n : Int} (h : 0 ≤ n) : 1 ≤ sizeM n := by unfold sizeM; rw [if_neg (by omega)]; omega
theorem nextL_congr {f f' : Nat → List UInt8} {N : Nat} {d : Int} {t t1 : TailM} {r : List UInt8} (h : nextL f N d t = some (r, t1)) (h0 : 0 ≤ t.next) (hf : ∀ j : Nat, t.next ≤ (j : Int) → (j : Int) < t1.next → f j = f' j) : nextL f' N d t = some (r, t1) := by
  unfold nextL at h ⊢
  cases hx : readL f N d t.next.toNat with
  | none => rw [hx] at h; cases h
  | some x =>
    rw [hx] at h
    simp only at h
    by_cases hc : firstOK t x
    · rw [if_pos hc] at h
      cases hr : restL f N d t.next.toNat x 1 ((sizeM x.left).toNat - 1) with
      | none => rw [hr] at h; cases h
      | some y =>
        rw [hr] at h
        simp only [Option.map_some, Option.some.injEq, Prod.mk.injEq] at h
        obtain ⟨h1, h2⟩ := h
        have hl : 0 ≤ x.left := by
          unfold readL at hx
          split at hx
          · cases hx
          · cases ho : openM ⟨d, 1, (t.next.toNat : Int)⟩ (f t.next.toNat) with
            | none => rw [ho] at hx; cases hx
            | some z =>
              rw [ho] at hx
              simp only [Option.map_some, Option.some.injEq] at hx
              rw [← hx]; exact Int.natCast_nonneg _
        have hs := size_pos hl
        have hn : t1.next = t.next + sizeM x.left := by rw [← h2]
        rw [← readL_congr (hf _ (by omega) (by omega)), hx]
        simp only
        rw [if_pos hc, ← restL_congr _ _ fun j h3 h4 => hf j (by omega) (by omega), hr]
        simp only [Option.map_some, Option.some.injEq, Prod.mk.injEq]
        exact ⟨h1, h2⟩
    · rw [if_neg hc] at h; cases h
end Go.Proofs.YtmcclbiaoeilkaaGreat
end
section
namespace Go.Proofs.YtmcclbiaoeilkaaGreat
open Go.RowKit Go.Sl Go.ChangeMaps
def digK (m : Nat) : Nat → Nat
  | 0 => 0
  | k + 1 => if 0 < m / 256 ^ k then k + 1 else digK m k
def digN (m : Nat) : Nat := digK m 8
def digL (m : Nat) : Nat → List UInt8
  | 0 => []
  | k + 1 => UInt8.ofNat (m / 256 ^ k) :: digL m k
def wireI (m : Nat) : List UInt8 := UInt8.ofNat (128 + digN m) :: digL m (digN m)
def flipB (f : Bool) (x : UInt8) : UInt8 := if f then x ^^^ 255 else x
def bigM (l : List UInt8) : Nat := l.foldl (fun m c => m * 256 + c.toNat) 0
def getI (b : List UInt8) : Option (Int × Nat) :=
  match b with
  | [] => none
  | x :: r =>
    if 8 < (flipB (decide (x < 128)) x).toNat - 128 then none
    else if r.length < (flipB (decide (x < 128)) x).toNat - 128 then none
    else if 0 < (flipB (decide (x < 128)) x).toNat - 128 ∧ flipB (decide (x < 128)) (r.getD 0 0) = 0 then none
    else if 9223372036854775808 ≤ bigM ((r.take ((flipB (decide (x < 128)) x).toNat - 128)).map (flipB (decide (x < 128)))) then none
    else some (if x < 128 then -1 - (bigM ((r.take ((flipB (decide (x < 128)) x).toNat - 128)).map (flipB (decide (x < 128)))) : Int) else (bigM ((r.take ((flipB (decide (x < 128)) x).toNat - 128)).map (flipB (decide (x < 128)))) : Int), (flipB (decide (x < 128)) x).toNat - 128 + 1)
theorem digK_le (m : Nat) : ∀ k, digK m k ≤ k
  | 0 => Nat.le_refl _
  | k + 1 => by unfold digK; split; exact Nat.le_refl _; exact Nat.le_succ_of_le (digK_le m k)
theorem digL_length (m : Nat) : ∀ k, (digL m k).length = k
  | 0 => rfl
  | k + 1 => by simp [digL, digL_length m k]
theorem wireI_length (m : Nat) : (wireI m).length ≤ 9 := by
  unfold wireI; rw [List.length_cons, digL_length]; have := digK_le m 8; unfold digN; omega
theorem bigM_snoc (l : List UInt8) (x : UInt8) : bigM (l ++ [x]) = bigM l * 256 + x.toNat := by simp [bigM]
theorem fold_big (l : List UInt8) : ∀ a : Nat, l.foldl (fun m c => m * 256 + c.toNat) a = a * 256 ^ l.length + bigM l := by
  induction l with
  | nil => intro a; simp [bigM]
  | cons x r ih =>
    intro a
    simp only [List.foldl_cons, List.length_cons, bigM]
    rw [ih, ih (0 * 256 + x.toNat), Nat.pow_succ]
    simp [Nat.add_mul, Nat.mul_assoc, Nat.add_assoc, Nat.mul_comm 256]
theorem bigM_cons (x : UInt8) (r : List UInt8) : bigM (x :: r) = x.toNat * 256 ^ r.length + bigM r := by
  unfold bigM; simp only [List.foldl_cons]; rw [fold_big]; simp [bigM]
theorem bigM_lt (l : List UInt8) : bigM l < 256 ^ l.length := by
  induction l with
  | nil => simp [bigM]
  | cons x r ih =>
    rw [bigM_cons, List.length_cons, Nat.pow_succ]
    have hx : x.toNat < 256 := x.toNat_lt
    have h1 : x.toNat * 256 ^ r.length ≤ 255 * 256 ^ r.length := Nat.mul_le_mul_right _ (by omega)
    omega
theorem bigM_digL (m : Nat) : ∀ k, bigM (digL m k) = m % 256 ^ k
  | 0 => by simp [digL, bigM, Nat.mod_one]
  | k + 1 => by
    unfold digL
    have hp : (256 : Nat) ^ (k + 1) = 256 ^ k * 256 := by rw [Nat.pow_succ]
    have h := @Nat.mod_mul (256 ^ k) 256 m
    rw [bigM_cons, digL_length, bigM_digL m k, UInt8.toNat_ofNat', hp]
    rw [h, Nat.mul_comm (256 ^ k)]
    exact Nat.add_comm (m / 256 ^ k % 256 * 256 ^ k) (m % 256 ^ k)
theorem digK_spec (m : Nat) : ∀ k, m < 256 ^ k → m < 256 ^ digK m k ∧ (0 < digK m k → 0 < m / 256 ^ (digK m k - 1))
  | 0, h => ⟨by simpa [digK] using h, fun h => by simp [digK] at h⟩
  | k + 1, h => by
    unfold digK
    split
    · exact ⟨h, fun _ => by simpa using ‹0 < m / 256 ^ k›⟩
    · rename_i h2
      have h3 : m < 256 ^ k := by
        rcases Nat.lt_or_ge m (256 ^ k) with h4 | h4
        · exact h4
        · exact absurd (Nat.div_pos h4 (Nat.pow_pos (by omega))) h2
      exact digK_spec m k h3
theorem flip_false (l : List UInt8) : l.map (flipB false) = l := by
  have : flipB false = id := by funext x; rfl
  rw [this, List.map_id]
theorem getI_wire (m : Nat) (hm : m < 9223372036854775808) (t : List UInt8) : getI (wireI m ++ t) = some ((m : Int), (wireI m).length) := by
  have h8 : digN m ≤ 8 := digK_le m 8
  obtain ⟨h1, h2⟩ := digK_spec m 8 (by omega)
  change m < 256 ^ digN m at h1
  change 0 < digN m → 0 < m / 256 ^ (digN m - 1) at h2
  have hx : (UInt8.ofNat (128 + digN m)).toNat = 128 + digN m := by rw [UInt8.toNat_ofNat']; omega
  have hlt : ¬ UInt8.ofNat (128 + digN m) < 128 := by
    rw [UInt8.lt_iff_toNat_lt, hx]
    show ¬ (128 + digN m < 128)
    omega
  unfold wireI getI
  have hff : flipB false (UInt8.ofNat (128 + digN m)) = UInt8.ofNat (128 + digN m) := rfl
  simp only [List.cons_append, hlt, decide_false, hff, if_false, hx, List.length_append, digL_length, List.length_cons]
  rw [show 128 + digN m - 128 = digN m by omega, if_neg (by omega), if_neg (by omega)]
  have htk : (digL m (digN m) ++ t).take (digN m) = digL m (digN m) := by
    have := List.take_left (l₁ := digL m (digN m)) (l₂ := t)
    rwa [digL_length] at this
  have hno : ¬ (0 < digN m ∧ flipB false ((digL m (digN m) ++ t).getD 0 0) = 0) := by
    rintro ⟨h3, h4⟩
    obtain ⟨k, hk⟩ : ∃ k, digN m = k + 1 := ⟨digN m - 1, by omega⟩
    have h5 : 0 < m / 256 ^ k := by have := h2 h3; rw [hk] at this; simpa using this
    have h6 : m / 256 ^ k < 256 := by
      rw [Nat.div_lt_iff_lt_mul (Nat.pow_pos (by omega))]
      rw [hk, Nat.pow_succ] at h1; omega
    rw [hk] at h4
    simp only [digL, List.cons_append, List.getD_cons_zero] at h4
    change UInt8.ofNat (m / 256 ^ k) = 0 at h4
    have h7 := congrArg UInt8.toNat h4
    rw [UInt8.toNat_ofNat', Nat.mod_eq_of_lt h6] at h7
    change m / 256 ^ k = 0 at h7
    omega
  rw [htk, flip_false, bigM_digL, Nat.mod_eq_of_lt h1, if_neg hno, if_neg (Nat.not_le.2 hm)]
structure CkM where
  gen : GenM
  seq : Int
  image : List UInt8
  deriving DecidableEq
def ck0 : CkM := ⟨g0, 0, []⟩
def capM (c : CfgM) : Int := max 0 (c.image - 1) * 40
def headM (b : List UInt8) (most : Int) : Option (Int × Nat) :=
  match getI b with
  | none => none
  | some (s, u) => match getI (b.drop u) with
    | none => none
    | some (n, _) => if 0 ≤ s ∧ 0 ≤ n ∧ n ≤ most then some (s, n.toNat) else none
def openAt (S : ShelfM) (d area i : Int) : Option (GenM × List UInt8) := openM ⟨d, area, i⟩ (S.read ⟨d, area, i⟩).1
def imgK (S : ShelfM) (d area : Int) (g : GenM) : Nat → Option (List UInt8)
  | 0 => some []
  | k + 1 => match imgK S d area g k with
    | none => none
    | some a => match openAt S d area ((k : Int) + 1) with
      | none => none
      | some (g', p) => if g' = g then some (a ++ p) else none
def ckRead (S : ShelfM) (d area : Int) : CkM × Int :=
  if S.state d = 0 ∨ (area ≠ 2 ∧ area ≠ 3) then (ck0, 1)
  else if S.access d ≠ 0 then (ck0, S.access d)
  else match openAt S d area 0 with
    | none => (ck0, 12)
    | some (g, p) => match headM p (capM S.cfg) with
      | none => (ck0, 12)
      | some (s, n) => match imgK S d area g ((n + 39) / 40) with
        | none => (ck0, 12)
        | some a => (⟨g, s, a.take n⟩, 0)
def newestM (S : ShelfM) (d : Int) : Int × CkM × Int :=
  if (ckRead S d 3).2 = 0 ∧ ((ckRead S d 2).2 ≠ 0 ∨ newerM (ckRead S d 3).1.gen (ckRead S d 2).1.gen = true) then (3, (ckRead S d 3).1, 0)
  else if (ckRead S d 2).2 = 0 then (2, (ckRead S d 2).1, 0) else (0, ck0, (ckRead S d 2).2)
def loadK (S : ShelfM) : Nat → CkM × Int
  | 0 => (ck0, 12)
  | k + 1 => if (newestM S k).2.2 = 0 ∧ ((loadK S k).2 ≠ 0 ∨ newerM (newestM S k).2.1.gen (loadK S k).1.gen = true) then ((newestM S k).2.1, 0) else loadK S k
def loadM (S : ShelfM) : CkM × Int := if S.off then (ck0, 14) else loadK S S.cfg.disks.toNat
def partsN (c : CkM) : Nat := (c.image.length + 39) / 40
def payM (c : CkM) (i : Nat) : List UInt8 := if i = 0 then wireI c.seq.toNat ++ wireI c.image.length else (c.image.drop (40 * (i - 1))).take 40
def wrFrom (d area : Int) (c : CkM) : ShelfM → Nat → Nat → ShelfM × Int
  | S, _, 0 => S.flush d
  | S, i, k + 1 => if (S.write ⟨d, area, i⟩ (sealL ⟨d, area, i⟩ c.gen (payM c i))).2 ≠ 0 then S.write ⟨d, area, i⟩ (sealL ⟨d, area, i⟩ c.gen (payM c i)) else wrFrom d area c (S.write ⟨d, area, i⟩ (sealL ⟨d, area, i⟩ c.gen (payM c i))).1 (i + 1) k
def writeM (S : ShelfM) (d area : Int) (c : CkM) : ShelfM × Int := wrFrom d area c S 0 (partsN c + 1)
def nextM (S : ShelfM) (d : Int) : Int := if (newestM S d).2.2 = 0 ∧ (newestM S d).1 = 2 then 3 else 2
def svFrom (c : CkM) : ShelfM → List (Nat × Int) → Nat → Nat → ShelfM × List (Nat × Int) × Int
  | S, l, _, 0 => (S, l, 0)
  | S, l, k, m + 1 => if S.state k ≠ 1 then svFrom c S l (k + 1) m
    else if (writeM S k (nextM S k) c).2 ≠ 0 then ((writeM S k (nextM S k) c).1, l, (writeM S k (nextM S k) c).2)
    else svFrom c (writeM S k (nextM S k) c).1 (l ++ [(k, nextM S k)]) (k + 1) m
def saveBad (c : CkM) : Prop := c.seq < 0 ∨ genOK c.gen = false
instance (c : CkM) : Decidable (saveBad c) := by unfold saveBad; infer_instance
def countM (S : ShelfM) (c : CkM) (l : List (Nat × Int)) : Nat := (l.filter fun x => decide (ckRead S x.1 x.2 = (c, 0))).length
def saveM (S : ShelfM) (c : CkM) : ShelfM × Int × Int :=
  if saveBad c then (S, 0, 1) else if capM S.cfg < (c.image.length : Int) then (S, 0, 2) else if S.off then (S, 0, 14)
  else if (svFrom c S [] 0 S.cfg.disks.toNat).2.2 ≠ 0 then ((svFrom c S [] 0 S.cfg.disks.toNat).1, 0, (svFrom c S [] 0 S.cfg.disks.toNat).2.2)
  else if (svFrom c S [] 0 S.cfg.disks.toNat).2.1 = [] then ((svFrom c S [] 0 S.cfg.disks.toNat).1, 0, 15)
  else ((svFrom c S [] 0 S.cfg.disks.toNat).1, (countM (svFrom c S [] 0 S.cfg.disks.toNat).1 c (svFrom c S [] 0 S.cfg.disks.toNat).2.1 : Int), 0)
end Go.Proofs.YtmcclbiaoeilkaaGreat
end
