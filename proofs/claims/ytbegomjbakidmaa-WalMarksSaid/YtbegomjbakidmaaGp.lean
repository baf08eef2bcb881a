import Derived.Test.YtbegomjbakidmaaGm
import Derived.Test.YtbegomjbakidmaaPf
/- Plain laws of the log: what an append makes readable, and where a scan ends. They speak of no program. -/
namespace Go.Proofs.Ytbegomjbakidmaa
open Go.RowKit Go.Sl Go.ChangeMaps

/-- The contents after a record was appended. -/
def appF (f : Nat → List UInt8) (d : Int) (t : TailM) (g : GenM) (r : List UInt8) (n : Nat) : Nat → List UInt8 :=
  fun j => if t.next ≤ (j : Int) ∧ (j : Int) < t.next + (n : Int) then sealL ⟨d, 1, (j : Int)⟩ g (payL t r (j - t.next.toNat)) else f j
def recN (r : List UInt8) : Nat := (sizeM (r.length : Int)).toNat
theorem recN_val (r : List UInt8) : (recN r : Int) = sizeM (r.length : Int) := by
  unfold recN; have := size_pos (n := (r.length : Int)) (by omega); omega
theorem recN_pos (r : List UInt8) : 1 ≤ recN r := by have := recN_val r; have := size_pos (n := (r.length : Int)) (by omega); omega
theorem recN_eq (r : List UInt8) : recN r = max 1 ((r.length + 25) / 26) := by
  have h := recN_val r
  unfold sizeM at h
  rw [if_neg (by omega)] at h
  omega
theorem recN_ge (r : List UInt8) : r.length ≤ 26 * recN r := by rw [recN_eq]; omega
theorem recN_lt {r : List UInt8} {i : Nat} (h : i < recN r) : 26 * i ≤ r.length := by rw [recN_eq] at h; omega
theorem payL_length {t : TailM} {r : List UInt8} {i : Nat} : (payL t r i).length = 14 + min 26 (r.length - 26 * i) := by
  simp [payL, leL_length, List.length_take, List.length_drop]; omega
theorem newer_ne {g h : GenM} (h1 : newerM g h = true) (h2 : 0 ≤ h.epoch) (h3 : 0 ≤ h.count) : g ≠ g0 := by
  rintro rfl
  unfold newerM g0 at h1
  simp at h1
  omega
theorem genV_iff {g : GenM} : genV g = true ↔ 0 ≤ g.epoch ∧ 0 ≤ g.count ∧ g.epoch < 4294967296 ∧ g.count < 4294967296 := by
  unfold genV
  simp only [Bool.and_eq_true, decide_eq_true_eq]
  constructor
  · rintro ⟨h1, h2⟩; exact ⟨by omega, by omega, by omega, by omega⟩
  · rintro ⟨h1, h2, h3, h4⟩; exact ⟨by omega, by omega⟩
theorem tailV_iff {t : TailM} : tailV t = true ↔ 0 ≤ t.next ∧ 0 ≤ t.number ∧ t.next ≤ 2147483647 ∧ t.number ≤ 2147483647 ∧ genV t.gen = true := by
  unfold tailV
  simp only [Bool.and_eq_true, decide_eq_true_eq]
  constructor
  · rintro ⟨⟨h1, h2⟩, h3⟩; exact ⟨by omega, by omega, by omega, by omega, h3⟩
  · rintro ⟨h1, h2, h3, h4, h5⟩; exact ⟨⟨by omega, by omega⟩, h5⟩
theorem genV_gen {g : GenM} (h : genV g = true) : (⟨(getM (leL g.epoch.toNat 4) : Int), (getM (leL g.count.toNat 4) : Int)⟩ : GenM) = g := by
  obtain ⟨h1, h2, h3, h4⟩ := genV_iff.1 h
  rw [getM_leL_lt (by omega), getM_leL_lt (by omega)]
  obtain ⟨e, c⟩ := g
  simp only at h1 h2 ⊢
  rw [Int.toNat_of_nonneg h1, Int.toNat_of_nonneg h2]

/-- What a payload reads as. -/
theorem part_pay {t : TailM} {g : GenM} {r : List UInt8} {i : Nat} (ht : tailV t = true) (hr : r.length ≤ 4096) (z : List UInt8) :
    partM (g, payL t r i ++ z) = ⟨g, t.gen, t.number + 1, ((r.length - 26 * i : Nat) : Int), (r.drop (26 * i)).take 26⟩ := by
  obtain ⟨h1, h2, h3, h4, h5⟩ := tailV_iff.1 ht
  have a1 : (leL (t.number + 1).toNat 4).length = 4 := leL_length _ _
  have a2 : (leL (r.length - 26 * i) 2).length = 2 := leL_length _ _
  have a3 : (leL t.gen.epoch.toNat 4).length = 4 := leL_length _ _
  have a4 : (leL t.gen.count.toNat 4).length = 4 := leL_length _ _
  have hb : ((r.drop (26 * i)).take 26).length = min 26 (r.length - 26 * i) := by simp
  have e1 : subL (payL t r i ++ z) 0 4 = leL (t.number + 1).toNat 4 := by
    unfold payL
    exact (congrArg (fun s => subL s 0 4) (by simp [List.append_assoc] : _ = [] ++ (leL (t.number + 1).toNat 4 ++ (leL (r.length - 26 * i) 2 ++ leL t.gen.epoch.toNat 4 ++ leL t.gen.count.toNat 4 ++ (r.drop (26 * i)).take 26 ++ z)))).trans (subL_app rfl a1)
  have e2 : subL (payL t r i ++ z) 4 6 = leL (r.length - 26 * i) 2 := by
    unfold payL
    exact (congrArg (fun s => subL s 4 6) (by simp [List.append_assoc] : _ = leL (t.number + 1).toNat 4 ++ (leL (r.length - 26 * i) 2 ++ (leL t.gen.epoch.toNat 4 ++ leL t.gen.count.toNat 4 ++ (r.drop (26 * i)).take 26 ++ z)))).trans (subL_app a1 a2)
  have e3 : subL (payL t r i ++ z) 6 10 = leL t.gen.epoch.toNat 4 := by
    unfold payL
    exact (congrArg (fun s => subL s 6 10) (by simp [List.append_assoc] : _ = (leL (t.number + 1).toNat 4 ++ leL (r.length - 26 * i) 2) ++ (leL t.gen.epoch.toNat 4 ++ (leL t.gen.count.toNat 4 ++ (r.drop (26 * i)).take 26 ++ z)))).trans (subL_app (by rw [List.length_append, a1, a2]) a3)
  have e4 : subL (payL t r i ++ z) 10 14 = leL t.gen.count.toNat 4 := by
    unfold payL
    exact (congrArg (fun s => subL s 10 14) (by simp [List.append_assoc] : _ = (leL (t.number + 1).toNat 4 ++ leL (r.length - 26 * i) 2 ++ leL t.gen.epoch.toNat 4) ++ (leL t.gen.count.toNat 4 ++ ((r.drop (26 * i)).take 26 ++ z)))).trans (subL_app (by rw [List.length_append, List.length_append, a1, a2, a3]) a4)
  have hleft : getM (leL (r.length - 26 * i) 2) = r.length - 26 * i := getM_leL_lt (by omega)
  have hnum : ((getM (leL (t.number + 1).toNat 4) : Nat) : Int) = t.number + 1 := by rw [getM_leL_lt (by omega)]; omega
  have e5 : subL (payL t r i ++ z) 14 (14 + min 26 (r.length - 26 * i)) = (r.drop (26 * i)).take 26 := by
    unfold payL
    exact (congrArg (fun s => subL s 14 (14 + min 26 (r.length - 26 * i))) (by simp [List.append_assoc] : _ = (leL (t.number + 1).toNat 4 ++ leL (r.length - 26 * i) 2 ++ leL t.gen.epoch.toNat 4 ++ leL t.gen.count.toNat 4) ++ ((r.drop (26 * i)).take 26 ++ z))).trans (subL_app (by rw [List.length_append, List.length_append, List.length_append, a1, a2, a3, a4]) (by rw [hb]; omega))
  unfold partM
  simp only
  rw [e1, e2, e3, e4, hleft, e5, hnum, genV_gen h5]

theorem read_app {f : Nat → List UInt8} {N : Nat} {d : Int} {t : TailM} {g : GenM} {r : List UInt8} (hd : 0 ≤ d ∧ d < 64) (hN : N ≤ 65536) (ht : tailV t = true) (hg : genV g = true) (hnew : newerM g t.gen = true) (hr : r.length ≤ 4096) {n i : Nat} (hi : i < n) (hfit : t.next + (n : Int) ≤ (N : Int)) :
    readL (appF f d t g r n) N d (t.next.toNat + i) = some ⟨g, t.gen, t.number + 1, ((r.length - 26 * i : Nat) : Int), (r.drop (26 * i)).take 26⟩ := by
  obtain ⟨h1, h2, h3, h4, h5⟩ := tailV_iff.1 ht
  obtain ⟨k1, k2, _, _⟩ := genV_iff.1 h5
  obtain ⟨m1, m2, m3, m4⟩ := genV_iff.1 hg
  unfold readL
  rw [if_neg (by omega)]
  unfold appF
  rw [if_pos (by omega), show t.next.toNat + i - t.next.toNat = i by omega]
  have hok : sealOK ⟨d, 1, ((t.next.toNat + i : Nat) : Int)⟩ g (payL t r i) = true := by
    unfold sealOK
    simp only [Bool.and_eq_true, decide_eq_true_eq]
    refine ⟨⟨placeOK_iff.2 ⟨hd.1, hd.2, by simp, by simp, by simp only; omega, by simp only; omega⟩, genOK_iff.2 ⟨m1, m2, m3, m4, newer_ne hnew k1 k2⟩⟩, ?_⟩
    rw [payL_length]; omega
  rw [open_seal hok, Option.map_some, part_pay ht hr]
theorem rest_app {f : Nat → List UInt8} {N : Nat} {d : Int} {t : TailM} {g : GenM} {r : List UInt8} (hd : 0 ≤ d ∧ d < 64) (hN : N ≤ 65536) (ht : tailV t = true) (hg : genV g = true) (hnew : newerM g t.gen = true) (hr : r.length ≤ 4096) (hfit : t.next + (recN r : Int) ≤ (N : Int)) (x : PartM) (hx : x = ⟨g, t.gen, t.number + 1, (r.length : Int), r.take 26⟩) :
    ∀ (k i : Nat), i + k = recN r → restL (appF f d t g r (recN r)) N d t.next.toNat x i k = some (r.drop (26 * i))
  | 0, i, h => by
    unfold restL
    rw [List.drop_eq_nil_of_le (by have := recN_ge r; omega)]
  | k + 1, i, h => by
    unfold restL
    rw [read_app hd hN ht hg hnew hr (by omega) hfit]
    have hlt := recN_lt (r := r) (i := i) (by omega)
    simp only
    rw [if_neg (by rw [hx]; simp only [ne_eq, not_true_eq_false, false_or]; omega), rest_app hd hN ht hg hnew hr hfit x hx k (i + 1) (by omega)]
    simp only [Option.map_some, Option.some.injEq]
    rw [show 26 * (i + 1) = 26 * i + 26 by omega, ← List.drop_drop]
    exact List.take_append_drop 26 _
/-- A record that was appended after t is read there. -/
theorem next_app {f : Nat → List UInt8} {N : Nat} {d : Int} {t : TailM} {g : GenM} {r : List UInt8} (hd : 0 ≤ d ∧ d < 64) (hN : N ≤ 65536) (ht : tailV t = true) (hg : genV g = true) (hnew : newerM g t.gen = true) (hr : r.length ≤ 4096) (hfit : t.next + (recN r : Int) ≤ (N : Int)) :
    nextL (appF f d t g r (recN r)) N d t = some (r, ⟨t.next + sizeM (r.length : Int), t.number + 1, g⟩) := by
  have hp := recN_pos r
  have hv := recN_val r
  have h0 := read_app (f := f) hd hN ht hg hnew hr (i := 0) (show 0 < recN r by omega) hfit
  simp only [Nat.add_zero, Nat.mul_zero, Nat.sub_zero, List.drop_zero] at h0
  unfold nextL
  rw [h0]
  simp only
  rw [if_pos ⟨hnew, rfl, rfl, by show (r.length : Int) ≤ 4096; omega⟩, rest_app hd hN ht hg hnew hr hfit _ rfl _ 1 (by rw [← hv]; omega)]
  simp only [Option.map_some, Option.some.injEq, Prod.mk.injEq, and_true]
  exact List.take_append_drop 26 _

/-- What is readable from t on is not newer than t. -/
def OldL (f : Nat → List UInt8) (d : Int) (i : Int) (g : GenM) : Prop := ∀ j : Nat, i ≤ (j : Int) → ∀ x, openM ⟨d, 1, (j : Int)⟩ (f j) = some x → newerM x.1 g = false
theorem OldL.none {f : Nat → List UInt8} {N : Nat} {d : Int} {t : TailM} (h : OldL f d t.next t.gen) (h0 : 0 ≤ t.next) : nextL f N d t = none := by
  unfold nextL
  cases hx : readL f N d t.next.toNat with
  | none => rfl
  | some x =>
    simp only
    rw [if_neg]
    rintro ⟨h1, _⟩
    unfold readL at hx
    split at hx
    · cases hx
    · cases ho : openM ⟨d, 1, (t.next.toNat : Int)⟩ (f t.next.toNat) with
      | none => rw [ho] at hx; cases hx
      | some z =>
        rw [ho] at hx
        simp only [Option.map_some, Option.some.injEq] at hx
        have := h t.next.toNat (by omega) z ho
        rw [← hx] at h1
        rw [show (partM z).gen = z.1 from rfl, this] at h1
        cases h1
theorem newer_trans {a b c : GenM} (h : newerM a b = false) (h2 : newerM c b = true) : newerM a c = false := by
  unfold newerM at *
  simp only [Bool.or_eq_true, Bool.or_eq_false_iff, Bool.and_eq_true, Bool.and_eq_false_iff, decide_eq_true_eq, decide_eq_false_iff_not] at *
  rcases h2 with h2 | ⟨h2, h3⟩ <;> rcases h with ⟨h4, h5 | h5⟩ <;> (refine ⟨by omega, ?_⟩; omega)
theorem OldL.app {f : Nat → List UInt8} {d : Int} {t : TailM} {g : GenM} {r : List UInt8} {n : Nat} (h : OldL f d t.next t.gen) (hnew : newerM g t.gen = true) : OldL (appF f d t g r n) d (t.next + (n : Int)) g := by
  intro j hj x hx
  unfold appF at hx
  rw [if_neg (by omega)] at hx
  exact newer_trans (h j (by omega) x hx) hnew
theorem zsec_open (a : PlaceM) : openM a zsec = none := by
  unfold openM
  rw [if_neg]
  rintro ⟨_, _, h, _⟩
  unfold labelOK at h
  simp only [Bool.and_eq_true] at h
  exact absurd h.1.2 (by decide)
end Go.Proofs.Ytbegomjbakidmaa

/- Plain laws of a log that is appended to: its tails, its records, and what a scan finds. They speak of no program. -/
namespace Go.Proofs.Ytbegomjbakidmaa
open Go.RowKit Go.Sl Go.ChangeMaps

def sumN (rs : List (List UInt8)) : Int := (rs.map fun r => sizeM (r.length : Int)).sum
theorem sumN_snoc (rs : List (List UInt8)) (r : List UInt8) : sumN (rs ++ [r]) = sumN rs + sizeM (r.length : Int) := by simp [sumN]
theorem sumN_nonneg : ∀ rs : List (List UInt8), 0 ≤ sumN rs
  | [] => by simp [sumN]
  | r :: l => by
    have := sumN_nonneg l
    have := size_pos (n := (r.length : Int)) (by omega)
    simp only [sumN, List.map_cons, List.sum_cons] at *
    omega
def genK (k : Nat) : GenM := if k = 0 then g0 else ⟨1, (k : Int)⟩
def tailK (rs : List (List UInt8)) (k : Nat) : TailM := ⟨sumN (rs.take k), (k : Int), genK k⟩
theorem tailK_snoc {rs : List (List UInt8)} {r : List UInt8} {k : Nat} (h : k ≤ rs.length) : tailK (rs ++ [r]) k = tailK rs k := by
  unfold tailK; rw [List.take_append_of_le_length h]
theorem tailK_last (rs : List (List UInt8)) (r : List UInt8) : tailK (rs ++ [r]) (rs.length + 1) = ⟨(tailK rs rs.length).next + sizeM (r.length : Int), (tailK rs rs.length).number + 1, ⟨1, (rs.length : Int) + 1⟩⟩ := by
  unfold tailK
  have h : (rs ++ [r]).take (rs.length + 1) = rs ++ [r] := List.take_of_length_le (by simp)
  rw [h, sumN_snoc, List.take_length]
  simp [genK]
theorem genK_newer (k : Nat) : newerM ⟨1, (k : Int) + 1⟩ (genK k) = true := by
  unfold genK newerM
  split
  · simp [g0]
  · simp; omega
theorem genK_valid {k : Nat} (h : k < 4294967296) : genV (genK k) = true := by
  unfold genK
  split
  · decide
  · exact genV_iff.2 ⟨by simp, by simp only; omega, by simp, by simp only; omega⟩
theorem tailK_valid {rs : List (List UInt8)} {k N : Nat} (h : sumN (rs.take k) ≤ (N : Int)) (hN : N ≤ 65536) (hk : k ≤ 1000) : tailV (tailK rs k) = true :=
  tailV_iff.2 ⟨sumN_nonneg _, by show (0 : Int) ≤ (k : Int); omega, by show sumN (rs.take k) ≤ 2147483647; omega, by show (k : Int) ≤ 2147483647; omega, genK_valid (by omega)⟩

theorem nextL_mono {f : Nat → List UInt8} {N : Nat} {d : Int} {t t1 : TailM} {r : List UInt8} (h : nextL f N d t = some (r, t1)) : t.next + 1 ≤ t1.next := by
  unfold nextL at h
  cases hx : readL f N d t.next.toNat with
  | none => rw [hx] at h; cases h
  | some x =>
    rw [hx] at h
    simp only at h
    by_cases hc : firstOK t x
    · rw [if_pos hc] at h
      cases hr : restL f N d t.next.toNat x 1 ((sizeM x.left).toNat - 1) with
      | none => rw [hr] at h; cases h
      | some y =>
        rw [hr] at h
        simp only [Option.map_some, Option.some.injEq, Prod.mk.injEq] at h
        have hl : 0 ≤ x.left := by
          unfold readL at hx
          split at hx
          · cases hx
          · cases ho : openM ⟨d, 1, (t.next.toNat : Int)⟩ (f t.next.toNat) with
            | none => rw [ho] at hx; cases hx
            | some z =>
              rw [ho] at hx
              simp only [Option.map_some, Option.some.injEq] at hx
              rw [← hx]; exact Int.natCast_nonneg _
        have := size_pos hl
        rw [← h.2]
        simp only
        omega
    · rw [if_neg hc] at h; cases h
theorem ChainL.mono {f : Nat → List UInt8} {N : Nat} {d : Int} {t t1 : TailM} {l : List (List UInt8)} (h : ChainL f N d t l t1) : t.next ≤ t1.next := by
  induction h with
  | nil t => exact Int.le_refl _
  | cons h _ ih => have := nextL_mono h; omega
theorem ChainL.congr {f f' : Nat → List UInt8} {N : Nat} {d : Int} {t t1 : TailM} {l : List (List UInt8)} (h : ChainL f N d t l t1) (h0 : 0 ≤ t.next) (hf : ∀ j : Nat, (j : Int) < t1.next → f j = f' j) : ChainL f' N d t l t1 := by
  induction h with
  | nil t => exact .nil t
  | cons h hr ih =>
    have h1 := nextL_mono h
    have h2 := hr.mono
    exact .cons (nextL_congr h h0 fun j _ h4 => hf j (by omega)) (ih (by omega) hf)

/-- A log on disk d of N sectors whose contents are f: the records rs after the tail t, the last tail t'. -/
structure LogL (f : Nat → List UInt8) (N : Nat) (d : Int) (t : TailM) (rs : List (List UInt8)) (t' : TailM) : Prop where
  chain : ChainL f N d t rs t'
  old : OldL f d 0 t'.gen
  start : 0 ≤ t.next
  tail : tailV t' = true
  fit : t'.next ≤ (N : Int)
theorem LogL.next0 {f : Nat → List UInt8} {N : Nat} {d : Int} {t t' : TailM} {rs : List (List UInt8)} (h : LogL f N d t rs t') : 0 ≤ t'.next := (tailV_iff.1 h.tail).1
theorem LogL.none {f : Nat → List UInt8} {N : Nat} {d : Int} {t t' : TailM} {rs : List (List UInt8)} (h : LogL f N d t rs t') : nextL f N d t' = Option.none :=
  OldL.none (fun j _ x hx => h.old j (Int.natCast_nonneg _) x hx) h.next0
theorem LogL.scan {f : Nat → List UInt8} {N : Nat} {d : Int} {t t' : TailM} {rs : List (List UInt8)} (h : LogL f N d t rs t') : ScanL f N d t rs t' := ⟨h.chain, h.none⟩
theorem LogL.empty {f : Nat → List UInt8} {N : Nat} {d : Int} {t : TailM} (h : OldL f d 0 t.gen) (ht : tailV t = true) (hf : t.next ≤ (N : Int)) : LogL f N d t [] t := ⟨.nil t, h, (tailV_iff.1 ht).1, ht, hf⟩
theorem old_app {f : Nat → List UInt8} {d : Int} {t : TailM} {g h0 : GenM} {r : List UInt8} {N n : Nat} (hd : 0 ≤ d ∧ d < 64) (hN : N ≤ 65536) (h : OldL f d 0 h0) (hnew : newerM g h0 = true) (hh : genV h0 = true) (ht : tailV t = true) (hg : genV g = true) (hfit : t.next + (n : Int) ≤ (N : Int)) : OldL (appF f d t g r n) d 0 g := by
  intro j _ x hx
  unfold appF at hx
  split at hx
  · next hc =>
    obtain ⟨h1, h2, h3, h4, _⟩ := tailV_iff.1 ht
    obtain ⟨k1, k2, _, _⟩ := genV_iff.1 hh
    obtain ⟨m1, m2, m3, m4⟩ := genV_iff.1 hg
    have hok : sealOK ⟨d, 1, (j : Int)⟩ g (payL t r (j - t.next.toNat)) = true := by
      unfold sealOK
      simp only [Bool.and_eq_true, decide_eq_true_eq]
      refine ⟨⟨placeOK_iff.2 ⟨hd.1, hd.2, by simp, by simp, by simp only; omega, by simp only; omega⟩, genOK_iff.2 ⟨m1, m2, m3, m4, newer_ne hnew k1 k2⟩⟩, ?_⟩
      rw [payL_length]; omega
    rw [open_seal hok] at hx
    cases hx
    unfold newerM
    simp
  · exact newer_trans (h j (by omega) x hx) hnew
/-- One more record. -/
theorem LogL.app {f : Nat → List UInt8} {N : Nat} {d : Int} {t t' : TailM} {rs : List (List UInt8)} (h : LogL f N d t rs t') (hd : 0 ≤ d ∧ d < 64) (hN : N ≤ 65536) {g : GenM} {r : List UInt8} (hg : genV g = true) (hnew : newerM g t'.gen = true) (hr : r.length ≤ 4096) (hfit : t'.next + (recN r : Int) ≤ (N : Int)) (hnum : t'.number < 2147483647) :
    LogL (appF f d t' g r (recN r)) N d t (rs ++ [r]) ⟨t'.next + sizeM (r.length : Int), t'.number + 1, g⟩ := by
  have hv := recN_val r
  obtain ⟨h1, h2, h3, h4, h5⟩ := tailV_iff.1 h.tail
  have hp := size_pos (n := (r.length : Int)) (by omega)
  refine ⟨(h.chain.congr h.start fun j hj => ?_).snoc (next_app hd hN h.tail hg hnew hr hfit), old_app hd hN h.old hnew h5 h.tail hg hfit, h.start, tailV_iff.2 ⟨by simp only; omega, by simp only; omega, by simp only; omega, by simp only; omega, hg⟩, by simp only; omega⟩
  unfold appF
  rw [if_neg (by omega)]

/-- The log of a first epoch: the records rs, appended one after the other. -/
structure LogK (f : Nat → List UInt8) (N : Nat) (d : Int) (rs : List (List UInt8)) : Prop where
  chain : ∀ k, k ≤ rs.length → ChainL f N d (tailK rs k) (rs.drop k) (tailK rs rs.length)
  pre : ∀ k, k ≤ rs.length → ChainL f N d t0 (rs.take k) (tailK rs k)
  old : OldL f d 0 (genK rs.length)
  fit : sumN rs ≤ (N : Int)
theorem LogK.log {f : Nat → List UInt8} {N : Nat} {d : Int} {rs : List (List UInt8)} (h : LogK f N d rs) (hN : N ≤ 65536) (hl : rs.length ≤ 1000) {k : Nat} (hk : k ≤ rs.length) : LogL f N d (tailK rs k) (rs.drop k) (tailK rs rs.length) :=
  ⟨h.chain k hk, h.old, sumN_nonneg _, tailK_valid (by rw [List.take_length]; exact h.fit) hN hl, by show sumN (rs.take rs.length) ≤ _; rw [List.take_length]; exact h.fit⟩
theorem LogK.nil {N : Nat} {d : Int} {f : Nat → List UInt8} (h : ∀ j : Nat, openM ⟨d, 1, (j : Int)⟩ (f j) = none) : LogK f N d [] :=
  by
  refine ⟨fun k hk => ?_, fun k hk => ?_, fun j _ x hx => ?_, ?_⟩
  · obtain rfl : k = 0 := by simpa using hk
    exact .nil _
  · obtain rfl : k = 0 := by simpa using hk
    exact .nil _
  · rw [h j] at hx; cases hx
  · simp [sumN]
theorem LogK.app {f : Nat → List UInt8} {N : Nat} {d : Int} {rs : List (List UInt8)} (h : LogK f N d rs) (hd : 0 ≤ d ∧ d < 64) (hN : N ≤ 65536) (hl : rs.length ≤ 999) {r : List UInt8} (hr : r.length ≤ 4096) (hfit : sumN rs + (recN r : Int) ≤ (N : Int)) :
    LogK (appF f d (tailK rs rs.length) ⟨1, (rs.length : Int) + 1⟩ r (recN r)) N d (rs ++ [r]) := by
  have ht := tailK_valid (rs := rs) (k := rs.length) (N := N) (by rw [List.take_length]; exact h.fit) hN (by omega)
  have hgv : genV ⟨1, (rs.length : Int) + 1⟩ = true := genV_iff.2 ⟨by simp, by simp only; omega, by simp, by simp only; omega⟩
  have hnew := genK_newer rs.length
  have e : (tailK rs rs.length).next = sumN rs := by show sumN (rs.take rs.length) = _; rw [List.take_length]
  have hf2 : (tailK rs rs.length).next + (recN r : Int) ≤ (N : Int) := by rw [e]; exact hfit
  have hnx := next_app (f := f) hd hN ht hgv hnew hr hf2
  have hcg : ∀ j : Nat, (j : Int) < (tailK rs rs.length).next → f j = appF f d (tailK rs rs.length) ⟨1, (rs.length : Int) + 1⟩ r (recN r) j := fun j hj => by unfold appF; rw [if_neg (by omega)]
  have hlen : (rs ++ [r]).length = rs.length + 1 := by simp
  have hch : ∀ k, k ≤ rs.length → ChainL (appF f d (tailK rs rs.length) ⟨1, (rs.length : Int) + 1⟩ r (recN r)) N d (tailK rs k) (rs.drop k ++ [r]) (tailK (rs ++ [r]) (rs.length + 1)) := fun k hk => by
    rw [tailK_last]
    exact ((h.chain k hk).congr (sumN_nonneg _) hcg).snoc hnx
  refine ⟨fun k hk => ?_, fun k hk => ?_, ?_, ?_⟩
  · rw [hlen] at hk ⊢
    by_cases hkl : k ≤ rs.length
    · rw [tailK_snoc hkl, List.drop_append_of_le_length hkl]; exact hch k hkl
    · obtain rfl : k = rs.length + 1 := by omega
      rw [List.drop_eq_nil_of_le (by simp)]
      exact .nil _
  · rw [hlen] at hk
    by_cases hkl : k ≤ rs.length
    · rw [tailK_snoc hkl, List.take_append_of_le_length hkl]
      refine (h.pre k hkl).congr (by simp [t0]) fun j hj => hcg j ?_
      have := (h.chain k hkl).mono
      omega
    · obtain rfl : k = rs.length + 1 := by omega
      rw [List.take_of_length_le (by simp)]
      have h0 := hch 0 (Nat.zero_le _)
      rw [List.drop_zero] at h0
      have : tailK rs 0 = t0 := by simp [tailK, sumN, genK, t0]
      rwa [this] at h0
  · rw [hlen, show genK (rs.length + 1) = ⟨1, (rs.length : Int) + 1⟩ by simp [genK]]
    exact old_app hd hN h.old hnew (tailV_iff.1 ht).2.2.2.2 ht hgv hf2
  · rw [sumN_snoc, ← recN_val]; exact hfit
end Go.Proofs.Ytbegomjbakidmaa

/- Plain laws of a shelf that is in order: its log sectors are read, written, flushed and damaged as expected. They speak of no program. -/
namespace Go.Proofs.Ytbegomjbakidmaa
open Go.RowKit Go.Sl Go.ChangeMaps

/-- A shelf without faults: the power is on, no fuse, all disks in service, no fault armed. -/
structure FineS (c : CfgM) (S : ShelfM) : Prop where
  wf : S.WF
  cfg : S.cfg = c
  off : S.off = false
  fused : S.fused = false
  st : ∀ d : Int, 0 ≤ d → d < c.disks → S.state d = 1
  armed : ∀ d : Int, 0 ≤ d → d < c.disks → ∀ i, (S.disk d).armed i = none
def conL (S : ShelfM) (d : Int) (j : Nat) : List UInt8 := (S.disk d).content j
theorem FineS.bays {c : CfgM} {S : ShelfM} (h : FineS c S) : (S.bays.length : Int) = c.disks := by
  have h1 := h.wf.bays
  have h2 := h.wf.cfg.disks
  rw [h.cfg] at h1 h2
  omega
theorem log_number {S : ShelfM} {d : Int} {i : Nat} (hd : S.state d ≠ 0) (hi : (i : Int) < S.cfg.log) : S.number ⟨d, 1, (i : Int)⟩ = (i : Int) := by
  unfold ShelfM.number
  have hs : S.cfg.size 1 = S.cfg.log := by simp [CfgM.size]
  have hb : S.cfg.base 1 = 0 := by simp [CfgM.base]
  simp only
  rw [hs, hb, if_neg (by omega)]
  omega
theorem log_has {S : ShelfM} (hw : S.WF) {d : Int} {i : Nat} (hd : S.state d = 1) (hi : (i : Int) < S.cfg.log) : i < (S.disk d).n := by
  have h1 := ShelfM.disk_n hw hd
  have h2 := hw.cfg.image; have h3 := hw.cfg.rows
  unfold CfgM.sectors at h1
  omega
/-- The log of disk d is read as f. -/
def ReadsL (S : ShelfM) (d : Int) (N : Nat) (f : Nat → List UInt8) : Prop := ∀ j : Nat, j < N → S.read ⟨d, 1, (j : Int)⟩ = (f j, 0)
theorem log_read {S : ShelfM} (hw : S.WF) (ho : S.off = false) {d : Int} {i : Nat} (hd : S.state d = 1) (hi : (i : Int) < S.cfg.log) : S.read ⟨d, 1, (i : Int)⟩ = (conL S d i, 0) := by
  unfold ShelfM.read ShelfM.access
  rw [log_number (by omega) hi]
  simp only
  rw [if_neg (by omega), ho, hd]
  simp only [Bool.false_eq_true, if_false, if_true, ne_eq, not_true_eq_false]
  unfold DiskM.read
  rw [if_pos (DiskM.has_of (by omega) (by have := log_has hw hd hi; omega))]
  rfl
theorem FineS.reads {c : CfgM} {S : ShelfM} (h : FineS c S) {d : Int} (h0 : 0 ≤ d) (h1 : d < c.disks) {N : Nat} (hN : (N : Int) ≤ c.log) : ReadsL S d N (conL S d) := fun j hj =>
  log_read h.wf h.off (h.st d h0 h1) (by rw [h.cfg]; omega)
/-- A write to a sector of the log. -/
theorem FineS.write {c : CfgM} {S : ShelfM} (h : FineS c S) {d : Int} (h0 : 0 ≤ d) (h1 : d < c.disks) {i : Nat} (hi : (i : Int) < c.log) {s : List UInt8} (hs : s.length = 64) :
    (S.write ⟨d, 1, (i : Int)⟩ s).2 = 0 ∧ FineS c (S.write ⟨d, 1, (i : Int)⟩ s).1 ∧ ∀ e : Int, ∀ j : Nat, conL (S.write ⟨d, 1, (i : Int)⟩ s).1 e j = if e = d ∧ j = i then s else conL S e j := by
  have hst := h.st d h0 h1
  have hi' : (i : Int) < S.cfg.log := by rw [h.cfg]; exact hi
  have hlt := log_has h.wf hst hi'
  have hwr := DiskM.write_ok hlt hs (h.armed d h0 h1 i)
  have hb : d < (S.bays.length : Int) := by rw [h.bays]; exact h1
  have he : S.write ⟨d, 1, (i : Int)⟩ s = (S.setDisk d { S.disk d with cache := fupd (S.disk d).cache i (some s) }, 0) := by
    unfold ShelfM.write
    rw [log_number (by omega) hi', if_neg (by omega), ShelfM.step_run h.off hst h.fused, hwr]
  rw [he]
  refine ⟨rfl, ⟨?_, h.cfg, h.off, h.fused, fun e e0 e1 => ?_, fun e e0 e1 k => ?_⟩, fun e j => ?_⟩
  · exact h.wf.setDisk (by omega) rfl
  · simp only
    rw [ShelfM.setDisk_state h0 hb]; exact h.st e e0 e1
  · simp only
    rw [ShelfM.setDisk_disk h0 hb]
    split
    · exact h.armed d h0 h1 k
    · exact h.armed e e0 e1 k
  · unfold conL
    simp only
    rw [ShelfM.setDisk_disk h0 hb]
    by_cases hed : e = d
    · subst hed
      rw [if_pos rfl]
      by_cases hj : j = i
      · subst hj; rw [if_pos ⟨rfl, rfl⟩]; simp [DiskM.content, fupd]
      · rw [if_neg (by simp [hj])]; simp [DiskM.content, fupd, hj]
    · rw [if_neg hed, if_neg (by simp [hed])]

/-! ### appending -/
/-- After the first k sectors of a record. -/
def wrN (S : ShelfM) (d : Int) (t : TailM) (g : GenM) (r : List UInt8) : Nat → ShelfM × Int
  | 0 => (S, 0)
  | k + 1 => if (wrN S d t g r k).2 ≠ 0 then wrN S d t g r k else (wrN S d t g r k).1.write ⟨d, 1, t.next + (k : Int)⟩ (sealL ⟨d, 1, t.next + (k : Int)⟩ g (payL t r k))
def logN (c : CfgM) : Int := max (c.log - 3) 0
def appErr (c : CfgM) (d : Int) (t : TailM) (g : GenM) (r : List UInt8) : Int :=
  if ¬ (0 ≤ d ∧ d < c.disks ∧ tailV t = true ∧ genV g = true) then 1 else if newerM g t.gen = false then 9 else if 4096 < r.length then 2 else if logN c < t.next + (recN r : Int) then 16 else 0
def noTail : TailM := ⟨0, 0, g0⟩
def appM (S : ShelfM) (d : Int) (t : TailM) (g : GenM) (r : List UInt8) : ShelfM × TailM × Int :=
  if appErr S.cfg d t g r ≠ 0 then (S, noTail, appErr S.cfg d t g r)
  else if (wrN S d t g r (recN r)).2 ≠ 0 then ((wrN S d t g r (recN r)).1, noTail, (wrN S d t g r (recN r)).2)
  else ((wrN S d t g r (recN r)).1, ⟨t.next + (recN r : Int), t.number + 1, g⟩, 0)
theorem appErr_none {c : CfgM} {d : Int} {t : TailM} {g : GenM} {r : List UInt8} (h : appErr c d t g r = 0) :
    (0 ≤ d ∧ d < c.disks ∧ tailV t = true ∧ genV g = true) ∧ newerM g t.gen = true ∧ r.length ≤ 4096 ∧ t.next + (recN r : Int) ≤ logN c := by
  unfold appErr at h
  by_cases h1 : 0 ≤ d ∧ d < c.disks ∧ tailV t = true ∧ genV g = true
  · rw [if_neg (by simpa using h1)] at h
    cases h2 : newerM g t.gen with
    | false => rw [if_pos h2] at h; cases h
    | true =>
      rw [if_neg (by rw [h2]; decide)] at h
      by_cases h3 : 4096 < r.length
      · rw [if_pos h3] at h; cases h
      · rw [if_neg h3] at h
        by_cases h4 : logN c < t.next + (recN r : Int)
        · rw [if_pos h4] at h; cases h
        · exact ⟨h1, rfl, by omega, by omega⟩
  · rw [if_pos h1] at h; cases h
theorem appErr_of {c : CfgM} {d : Int} {t : TailM} {g : GenM} {r : List UInt8} (h1 : 0 ≤ d ∧ d < c.disks ∧ tailV t = true ∧ genV g = true) (h2 : newerM g t.gen = true) (h3 : r.length ≤ 4096) (h4 : t.next + (recN r : Int) ≤ logN c) : appErr c d t g r = 0 := by
  unfold appErr
  rw [if_neg (by simpa using h1), if_neg (by rw [h2]; decide), if_neg (by omega), if_neg (by omega)]
theorem wrN_fine {c : CfgM} {S : ShelfM} (h : FineS c S) {d : Int} (h0 : 0 ≤ d) (h1 : d < c.disks) {t : TailM} (ht : 0 ≤ t.next) {g : GenM} {r : List UInt8} (hfit : t.next + (recN r : Int) ≤ logN c) :
    ∀ k : Nat, k ≤ recN r → (wrN S d t g r k).2 = 0 ∧ FineS c (wrN S d t g r k).1 ∧ (∀ j, conL (wrN S d t g r k).1 d j = appF (conL S d) d t g r k j) ∧ ∀ e : Int, e ≠ d → ∀ j, conL (wrN S d t g r k).1 e j = conL S e j
  | 0, _ => ⟨rfl, h, fun j => by unfold appF; rw [if_neg (by omega)]; rfl, fun _ _ _ => rfl⟩
  | k + 1, hk => by
    obtain ⟨e1, e2, e3, e4⟩ := wrN_fine h h0 h1 ht (g := g) hfit k (by omega)
    unfold wrN
    rw [if_neg (by rw [e1]; simp)]
    have hpl : (sealL ⟨d, 1, t.next + (k : Int)⟩ g (payL t r k)).length = 64 := sealL_length (by rw [payL_length]; omega)
    have hnn : t.next + (k : Int) = ((t.next.toNat + k : Nat) : Int) := by omega
    have hlog : ((t.next.toNat + k : Nat) : Int) < c.log := by unfold logN at hfit; have := recN_pos r; omega
    rw [hnn] at hpl ⊢
    obtain ⟨f1, f2, f3⟩ := e2.write h0 h1 hlog hpl
    refine ⟨f1, f2, fun j => ?_, fun e he j => ?_⟩
    · rw [f3, e3]
      unfold appF
      by_cases hj : j = t.next.toNat + k
      · subst hj
        rw [if_pos ⟨rfl, rfl⟩, if_pos (by omega), show t.next.toNat + k - t.next.toNat = k by omega]
      · rw [if_neg (by simp [hj])]
        by_cases hin : t.next ≤ (j : Int) ∧ (j : Int) < t.next + (k : Int)
        · rw [if_pos hin, if_pos (by omega)]
        · rw [if_neg hin, if_neg (by omega)]
    · rw [f3, if_neg (by simp [he]), e4 e he]
theorem appM_fine {c : CfgM} {S : ShelfM} (h : FineS c S) {d : Int} {t : TailM} {g : GenM} {r : List UInt8} (hz : appErr c d t g r = 0) :
    ∃ S', appM S d t g r = (S', ⟨t.next + (recN r : Int), t.number + 1, g⟩, 0) ∧ FineS c S' ∧ conL S' d = appF (conL S d) d t g r (recN r) ∧ ∀ e : Int, e ≠ d → conL S' e = conL S e := by
  obtain ⟨⟨h0, h1, ht, _⟩, _, _, hfit⟩ := appErr_none hz
  obtain ⟨e1, e2, e3, e4⟩ := wrN_fine h h0 h1 (tailV_iff.1 ht).1 (g := g) hfit (recN r) (Nat.le_refl _)
  refine ⟨_, ?_, e2, funext e3, fun e he => funext (e4 e he)⟩
  unfold appM
  rw [h.cfg, if_neg (by rw [hz]; simp), if_neg (by rw [e1]; simp)]
theorem appM_err {c : CfgM} {S : ShelfM} (h : S.cfg = c) {d : Int} {t : TailM} {g : GenM} {r : List UInt8} (hz : appErr c d t g r ≠ 0) : appM S d t g r = (S, noTail, appErr c d t g r) := by
  unfold appM
  rw [h, if_pos hz]
end Go.Proofs.Ytbegomjbakidmaa
