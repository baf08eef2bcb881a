/- The plain model of sealed sectors and of the log on one disk, and its laws. It speaks of no program. -/
import Derived.Test.YtbegomjbakidmaaCt
import Derived.Test.YtbegomjbakidmaaSk
namespace Go.Proofs.Ytbegomjbakidmaa
open Go.RowKit Go.Sl Go.ChangeMaps

/-- The bytes from i to j. -/
def subL (s : List UInt8) (i j : Nat) : List UInt8 := (s.drop i).take (j - i)
def headL (a : PlaceM) (g : GenM) : List UInt8 := [UInt8.ofNat a.area.toNat, UInt8.ofNat a.disk.toNat] ++ leL a.index.toNat 2 ++ leL g.epoch.toNat 4 ++ leL g.count.toNat 4
def zerosL (n : Nat) : List UInt8 := List.replicate n 0
def bodyL (a : PlaceM) (g : GenM) (p : List UInt8) : List UInt8 := headL a g ++ p ++ zerosL (40 - p.length) ++ leL g.epoch.toNat 4 ++ leL g.count.toNat 4
def sealL (a : PlaceM) (g : GenM) (p : List UInt8) : List UInt8 := leL (crcM (bodyL a g p)).toNat 4 ++ bodyL a g p
def sealOK (a : PlaceM) (g : GenM) (p : List UInt8) : Bool := placeOK a && genOK g && decide (p.length ≤ 40)
def genAt (s : List UInt8) (i : Nat) : GenM := ⟨(getM (subL s i (i + 4)) : Int), (getM (subL s (i + 4) (i + 8)) : Int)⟩
def placeAt (s : List UInt8) : PlaceM := ⟨((s.getD 5 0).toNat : Int), ((s.getD 4 0).toNat : Int), (getM (subL s 6 8) : Int)⟩
def labelOK (s : List UInt8) : Bool := decide (getM (subL s 0 4) = (crcM (s.drop 4)).toNat) && placeOK (placeAt s) && genOK (genAt s 8) && decide (subL s 8 16 = s.drop 56)
def openM (a : PlaceM) (s : List UInt8) : Option (GenM × List UInt8) :=
  if placeOK a = true ∧ s.length = 64 ∧ labelOK s = true ∧ placeAt s = a then some (genAt s 8, subL s 16 56) else none

theorem getM_leL : ∀ (m n : Nat), getM (leL n m) = n % 256 ^ m
  | 0, n => by simp [leL, getM, Nat.mod_one]
  | m + 1, n => by
    have h : (leB n m).toNat = n / 256 ^ m % 256 := by unfold leB; rw [UInt8.toNat_ofNat']
    rw [leL_succ, getM_snoc, getM_leL m, leL_length, h, Nat.pow_succ, Nat.mod_mul, Nat.mul_comm (256 ^ m)]
theorem getM_leL_lt {m n : Nat} (h : n < 256 ^ m) : getM (leL n m) = n := by rw [getM_leL, Nat.mod_eq_of_lt h]
theorem headL_length (a : PlaceM) (g : GenM) : (headL a g).length = 12 := by simp [headL, leL_length]
theorem bodyL_length {a : PlaceM} {g : GenM} {p : List UInt8} (h : p.length ≤ 40) : (bodyL a g p).length = 60 := by
  simp [bodyL, headL_length, leL_length, zerosL]; omega
theorem sealL_length {a : PlaceM} {g : GenM} {p : List UInt8} (h : p.length ≤ 40) : (sealL a g p).length = 64 := by
  simp [sealL, leL_length, bodyL_length h]
theorem subL_app {x y z : List UInt8} {i j : Nat} (hx : x.length = i) (hy : y.length = j - i) : subL (x ++ (y ++ z)) i j = y := by
  unfold subL
  rw [← hx, List.drop_left, hx, ← hy, List.take_left]
theorem drop_app {x y : List UInt8} {i : Nat} (hx : x.length = i) : (x ++ y).drop i = y := by rw [← hx, List.drop_left]
theorem genOK_iff {g : GenM} : genOK g = true ↔ 0 ≤ g.epoch ∧ 0 ≤ g.count ∧ g.epoch < 4294967296 ∧ g.count < 4294967296 ∧ g ≠ g0 := by
  unfold genOK
  simp only [Bool.and_eq_true, decide_eq_true_eq]
  constructor
  · rintro ⟨⟨h1, h2⟩, h3⟩; exact ⟨by omega, by omega, by omega, by omega, h3⟩
  · rintro ⟨h1, h2, h3, h4, h5⟩; exact ⟨⟨by omega, by omega⟩, h5⟩
theorem placeOK_iff {a : PlaceM} : placeOK a = true ↔ 0 ≤ a.disk ∧ a.disk < 64 ∧ 1 ≤ a.area ∧ a.area ≤ 4 ∧ 0 ≤ a.index ∧ a.index < 65536 := by
  unfold placeOK
  simp only [Bool.and_eq_true, decide_eq_true_eq]
  constructor
  · rintro ⟨⟨⟨⟨⟨h1, h2⟩, h3⟩, h4⟩, h5⟩, h6⟩; exact ⟨h1, h2, h3, h4, h5, h6⟩
  · rintro ⟨h1, h2, h3, h4, h5, h6⟩; exact ⟨⟨⟨⟨⟨h1, h2⟩, h3⟩, h4⟩, h5⟩, h6⟩
theorem gen_leL {g : GenM} (h : genOK g = true) : (⟨(getM (leL g.epoch.toNat 4) : Int), (getM (leL g.count.toNat 4) : Int)⟩ : GenM) = g := by
  obtain ⟨h1, h2, h3, h4, _⟩ := genOK_iff.1 h
  rw [getM_leL_lt (by omega), getM_leL_lt (by omega)]
  obtain ⟨e, c⟩ := g
  simp only at h1 h2 ⊢
  rw [Int.toNat_of_nonneg h1, Int.toNat_of_nonneg h2]
theorem u8_ofNat_toNat {n : Nat} (h : n < 256) : (UInt8.ofNat n).toNat = n := by rw [UInt8.toNat_ofNat']; exact Nat.mod_eq_of_lt h

/-- What a sealed sector reads as. -/
theorem sealL_parts (a : PlaceM) (g : GenM) {p : List UInt8} (h : p.length ≤ 40) :
    subL (sealL a g p) 0 4 = leL (crcM (bodyL a g p)).toNat 4 ∧ (sealL a g p).drop 4 = bodyL a g p ∧ (sealL a g p).getD 4 0 = UInt8.ofNat a.area.toNat ∧ (sealL a g p).getD 5 0 = UInt8.ofNat a.disk.toNat ∧
    subL (sealL a g p) 6 8 = leL a.index.toNat 2 ∧ subL (sealL a g p) 8 12 = leL g.epoch.toNat 4 ∧ subL (sealL a g p) 12 16 = leL g.count.toNat 4 ∧
    subL (sealL a g p) 8 16 = leL g.epoch.toNat 4 ++ leL g.count.toNat 4 ∧ (sealL a g p).drop 56 = leL g.epoch.toNat 4 ++ leL g.count.toNat 4 ∧ subL (sealL a g p) 16 56 = p ++ zerosL (40 - p.length) := by
  have hl4 : ∀ n, (leL n 4).length = 4 := fun n => leL_length n 4
  have hl2 : ∀ n, (leL n 2).length = 2 := fun n => leL_length n 2
  have hz : (zerosL (40 - p.length)).length = 40 - p.length := by simp [zerosL]
  generalize hc : leL (crcM (bodyL a g p)).toNat 4 = c
  have hcl : c.length = 4 := by rw [← hc, hl4]
  have he : sealL a g p = c ++ bodyL a g p := by rw [sealL, hc]
  have h2 : (leL g.epoch.toNat 4).length = 4 := hl4 _
  have h3 : (leL g.count.toNat 4).length = 4 := hl4 _
  have h4 : (leL a.index.toNat 2).length = 2 := hl2 _
  rw [he]
  refine ⟨?_, drop_app hcl, ?_, ?_, ?_⟩
  · have := subL_app (x := []) (y := c) (z := bodyL a g p) (i := 0) (j := 4) rfl hcl
    simpa using this
  · unfold bodyL headL
    rw [List.getD_eq_getElem?_getD, List.getElem?_append_right (by omega)]
    simp [hcl]
  · unfold bodyL headL
    rw [List.getD_eq_getElem?_getD, List.getElem?_append_right (by omega)]
    simp [hcl]
  unfold bodyL headL
  generalize leL g.epoch.toNat 4 = e at *
  generalize leL g.count.toNat 4 = k at *
  generalize leL a.index.toNat 2 = x at *
  generalize zerosL (40 - p.length) = z at *
  generalize UInt8.ofNat a.area.toNat = u
  generalize UInt8.ofNat a.disk.toNat = v
  refine ⟨?_, ?_, ?_, ?_, ?_, ?_⟩
  · exact (congrArg (fun t => subL t 6 8) (by simp [List.append_assoc] : _ = (c ++ [u, v]) ++ (x ++ (e ++ k ++ p ++ z ++ e ++ k)))).trans (subL_app (by simp [hcl]) (by simp [h4]))
  · exact (congrArg (fun t => subL t 8 12) (by simp [List.append_assoc] : _ = (c ++ [u, v] ++ x) ++ (e ++ (k ++ p ++ z ++ e ++ k)))).trans (subL_app (by simp [hcl, h4]) (by simp [h2]))
  · exact (congrArg (fun t => subL t 12 16) (by simp [List.append_assoc] : _ = (c ++ [u, v] ++ x ++ e) ++ (k ++ (p ++ z ++ e ++ k)))).trans (subL_app (by simp [hcl, h4, h2]) (by simp [h3]))
  · exact (congrArg (fun t => subL t 8 16) (by simp [List.append_assoc] : _ = (c ++ [u, v] ++ x) ++ ((e ++ k) ++ (p ++ z ++ e ++ k)))).trans (subL_app (by simp [hcl, h4]) (by simp [h2, h3]))
  · exact (congrArg (fun t => List.drop 56 t) (by simp [List.append_assoc] : _ = (c ++ [u, v] ++ x ++ e ++ k ++ p ++ z) ++ (e ++ k))).trans (drop_app (by simp [hcl, h4, h2, h3, hz]; omega))
  · exact (congrArg (fun t => subL t 16 56) (by simp [List.append_assoc] : _ = (c ++ [u, v] ++ x ++ e ++ k) ++ ((p ++ z) ++ (e ++ k)))).trans (subL_app (by simp [hcl, h4, h2, h3]) (by simp [hz]; omega))

theorem open_seal {a : PlaceM} {g : GenM} {p : List UInt8} (h : sealOK a g p = true) : openM a (sealL a g p) = some (g, p ++ zerosL (40 - p.length)) := by
  unfold sealOK at h
  simp only [Bool.and_eq_true, decide_eq_true_eq] at h
  obtain ⟨⟨ha, hg⟩, hp⟩ := h
  obtain ⟨e1, e2, e3, e4, e5, e6, e7, e8, e9, e10⟩ := sealL_parts a g hp
  have hgen : genAt (sealL a g p) 8 = g := by
    show (⟨(getM (subL (sealL a g p) 8 12) : Int), (getM (subL (sealL a g p) 12 16) : Int)⟩ : GenM) = g
    rw [e6, e7]; exact gen_leL hg
  have hpl : placeAt (sealL a g p) = a := by
    obtain ⟨h1, h2, h3, h4, h5, h6⟩ := placeOK_iff.1 ha
    unfold placeAt
    rw [e3, e4, e5, getM_leL_lt (by omega), u8_ofNat_toNat (by omega), u8_ofNat_toNat (by omega), Int.toNat_of_nonneg h1, Int.toNat_of_nonneg (by omega), Int.toNat_of_nonneg h5]
  have hcrc : getM (leL (crcM (bodyL a g p)).toNat 4) = (crcM (bodyL a g p)).toNat := getM_leL_lt (crcM (bodyL a g p)).toNat_lt
  have hlab : labelOK (sealL a g p) = true := by
    unfold labelOK
    rw [e1, e2, e8, e9, hgen, hpl, ha, hg, hcrc]
    simp
  unfold openM
  rw [if_pos ⟨ha, sealL_length hp, hlab, hpl⟩, hgen, e10]

/-! ### the log -/
structure TailM where
  next : Int
  number : Int
  gen : GenM
  deriving DecidableEq
def t0 : TailM := ⟨0, 0, g0⟩
def genV (g : GenM) : Bool := decide (0 ≤ min g.epoch g.count) && decide (max g.epoch g.count < 4294967296)
def tailV (t : TailM) : Bool := decide (0 ≤ min t.next t.number) && decide (max t.next t.number ≤ 2147483647) && genV t.gen
def sizeM (n : Int) : Int := if n < 0 then 0 else max 1 ((n + 25) / 26)
def payL (t : TailM) (r : List UInt8) (i : Nat) : List UInt8 := leL (t.number + 1).toNat 4 ++ leL (r.length - 26 * i) 2 ++ leL t.gen.epoch.toNat 4 ++ leL t.gen.count.toNat 4 ++ (r.drop (26 * i)).take 26
structure PartM where
  gen : GenM
  before : GenM
  number : Int
  left : Int
  bytes : List UInt8
  deriving DecidableEq
def partM (x : GenM × List UInt8) : PartM :=
  ⟨x.1, ⟨(getM (subL x.2 6 10) : Int), (getM (subL x.2 10 14) : Int)⟩, (getM (subL x.2 0 4) : Int), (getM (subL x.2 4 6) : Int), subL x.2 14 (14 + min 26 (getM (subL x.2 4 6)))⟩
/-- The part in a sector of a log of N sectors on disk d whose contents are f. -/
def readL (f : Nat → List UInt8) (N : Nat) (d : Int) (i : Nat) : Option PartM := if N ≤ i then none else (openM ⟨d, 1, (i : Int)⟩ (f i)).map partM
/-- The rest of a record from its i-th sector on, k sectors. -/
def restL (f : Nat → List UInt8) (N : Nat) (d : Int) (t : Nat) (x : PartM) : Nat → Nat → Option (List UInt8)
  | _, 0 => some []
  | i, k + 1 => match readL f N d (t + i) with
    | none => none
    | some p => if p.gen ≠ x.gen ∨ p.number ≠ x.number ∨ p.before ≠ x.before ∨ p.left ≠ x.left - 26 * (i : Int) then none else (restL f N d t x (i + 1) k).map (p.bytes ++ ·)
def firstOK (t : TailM) (x : PartM) : Prop := newerM x.gen t.gen = true ∧ x.number = t.number + 1 ∧ x.before = t.gen ∧ x.left ≤ 4096
instance (t : TailM) (x : PartM) : Decidable (firstOK t x) := by unfold firstOK; infer_instance
def nextL (f : Nat → List UInt8) (N : Nat) (d : Int) (t : TailM) : Option (List UInt8 × TailM) :=
  match readL f N d t.next.toNat with
  | none => none
  | some x => if firstOK t x then (restL f N d t.next.toNat x 1 ((sizeM x.left).toNat - 1)).map fun r => (x.bytes ++ r, ⟨t.next + sizeM x.left, x.number, x.gen⟩) else none
inductive ChainL (f : Nat → List UInt8) (N : Nat) (d : Int) : TailM → List (List UInt8) → TailM → Prop
  | nil (t : TailM) : ChainL f N d t [] t
  | cons {t t1 t2 : TailM} {r : List UInt8} {l : List (List UInt8)} (h : nextL f N d t = some (r, t1)) (hr : ChainL f N d t1 l t2) : ChainL f N d t (r :: l) t2
/-- The records after t are l, and t' is the tail behind them. -/
def ScanL (f : Nat → List UInt8) (N : Nat) (d : Int) (t : TailM) (l : List (List UInt8)) (t' : TailM) : Prop := ChainL f N d t l t' ∧ nextL f N d t' = none
theorem ChainL.snoc {f : Nat → List UInt8} {N : Nat} {d : Int} {t t1 t2 : TailM} {l : List (List UInt8)} {r : List UInt8} (h : ChainL f N d t l t1) (hn : nextL f N d t1 = some (r, t2)) : ChainL f N d t (l ++ [r]) t2 := by
  induction h with
  | nil t => exact .cons hn (.nil _)
  | cons h _ ih => exact .cons h (ih hn)
theorem ChainL.app {f : Nat → List UInt8} {N : Nat} {d : Int} {t t1 t2 : TailM} {l m : List (List UInt8)} (h : ChainL f N d t l t1) (h2 : ChainL f N d t1 m t2) : ChainL f N d t (l ++ m) t2 := by
  induction h with
  | nil t => exact h2
  | cons h _ ih => exact .cons h (ih h2)
theorem ChainL.det {f : Nat → List UInt8} {N : Nat} {d : Int} {t t1 t2 : TailM} {l m : List (List UInt8)} (h : ChainL f N d t l t1) (e : nextL f N d t1 = none) (h2 : ChainL f N d t m t2) (e2 : nextL f N d t2 = none) : l = m ∧ t1 = t2 := by
  induction h generalizing m with
  | nil t =>
    cases h2 with
    | nil => exact ⟨rfl, rfl⟩
    | cons h _ => rw [e] at h; cases h
  | cons h _ ih =>
    cases h2 with
    | nil => rw [e2] at h; cases h
    | cons h' hr' =>
      rw [h] at h'
      cases h'
      obtain ⟨h3, h4⟩ := ih e hr'
      exact ⟨by rw [h3], h4⟩
theorem ChainL.end_eq {f : Nat → List UInt8} {N : Nat} {d : Int} {t t1 t2 : TailM} {l : List (List UInt8)} (h : ChainL f N d t l t1) (h2 : ChainL f N d t l t2) : t1 = t2 := by
  induction h with
  | nil t => cases h2; rfl
  | cons h _ ih =>
    cases h2 with
    | cons h' hr' =>
      rw [h] at h'
      cases h'
      exact ih hr'
theorem readL_congr {f f' : Nat → List UInt8} {N : Nat} {d : Int} {i : Nat} (h : f i = f' i) : readL f N d i = readL f' N d i := by unfold readL; rw [h]
theorem restL_congr {f f' : Nat → List UInt8} {N : Nat} {d : Int} {t : Nat} {x : PartM} : ∀ (k i : Nat), (∀ j, t + i ≤ j → j < t + i + k → f j = f' j) → restL f N d t x i k = restL f' N d t x i k
  | 0, _, _ => rfl
  | k + 1, i, h => by
    unfold restL
    rw [readL_congr (h (t + i) (Nat.le_refl _) (by omega)), restL_congr k (i + 1) fun j h1 h2 => h j (by omega) (by omega)]
theorem size_pos {n : Int} (h : 0 ≤ n) : 1 ≤ sizeM n := by unfold sizeM; rw [if_neg (by omega)]; omega
/-- A record that is read stays when only sectors behind it change. -/
theorem nextL_congr {f f' : Nat → List UInt8} {N : Nat} {d : Int} {t t1 : TailM} {r : List UInt8} (h : nextL f N d t = some (r, t1)) (h0 : 0 ≤ t.next) (hf : ∀ j : Nat, t.next ≤ (j : Int) → (j : Int) < t1.next → f j = f' j) : nextL f' N d t = some (r, t1) := by
  unfold nextL at h ⊢
  cases hx : readL f N d t.next.toNat with
  | none => rw [hx] at h; cases h
  | some x =>
    rw [hx] at h
    simp only at h
    by_cases hc : firstOK t x
    · rw [if_pos hc] at h
      cases hr : restL f N d t.next.toNat x 1 ((sizeM x.left).toNat - 1) with
      | none => rw [hr] at h; cases h
      | some y =>
        rw [hr] at h
        simp only [Option.map_some, Option.some.injEq, Prod.mk.injEq] at h
        obtain ⟨h1, h2⟩ := h
        have hl : 0 ≤ x.left := by
          unfold readL at hx
          split at hx
          · cases hx
          · cases ho : openM ⟨d, 1, (t.next.toNat : Int)⟩ (f t.next.toNat) with
            | none => rw [ho] at hx; cases hx
            | some z =>
              rw [ho] at hx
              simp only [Option.map_some, Option.some.injEq] at hx
              rw [← hx]; exact Int.natCast_nonneg _
        have hs := size_pos hl
        have hn : t1.next = t.next + sizeM x.left := by rw [← h2]
        rw [← readL_congr (hf _ (by omega) (by omega)), hx]
        simp only
        rw [if_pos hc, ← restL_congr _ _ fun j h3 h4 => hf j (by omega) (by omega), hr]
        simp only [Option.map_some, Option.some.injEq, Prod.mk.injEq]
        exact ⟨h1, h2⟩
    · rw [if_neg hc] at h; cases h
end Go.Proofs.Ytbegomjbakidmaa
