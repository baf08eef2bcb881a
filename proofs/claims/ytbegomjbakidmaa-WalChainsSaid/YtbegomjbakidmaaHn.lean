/- Two logs with the same sizes, and one further record behind both: plain laws. -/
import Derived.Test.YtbegomjbakidmaaHq
namespace Go.Proofs.Ytbegomjbakidmaa
open Go.RowKit Go.Sl Go.ChangeMaps

/-- While the second disk's log is laid: the first i records lie there too. -/
structure ChI (size : Int) (S : ShelfM) (f0 : Nat → List UInt8) (l : List (List UInt8)) (i : Nat) : Prop where
  fine : FineS (cfgW size) S
  zero : conL S 0 = f0
  log : LogK (conL S 1) size.toNat 1 (l.take i)
theorem tailK_take {l : List (List UInt8)} {i : Nat} : tailK (l.take i) i = tailK l i := by unfold tailK; rw [List.take_take, Nat.min_self]
theorem sum_le_of {l : List (List UInt8)} {N : Nat} (h : sumN l ≤ (N : Int)) (i : Nat) : sumN (l.take i) ≤ (N : Int) := Int.le_trans (sumN_take_le l i) h
theorem take_snoc {l : List (List UInt8)} {i : Nat} {r : List UInt8} (hr : l[i]? = some r) : l.take (i + 1) = l.take i ++ [r] := by rw [List.take_add_one, hr]; rfl
theorem chI_start {size : Int} {S : ShelfM} {l : List (List UInt8)} (h : InvK size S l) : ChI size S (conL S 0) l 0 :=
  ⟨h.fine, rfl, LogK.nil fun j => by rw [h.other]; exact zsec_open _⟩
theorem ch_err {size : Int} (h1 : 1 ≤ size) (h2 : size ≤ 40) {d : Int} (hd : 0 ≤ d ∧ d < 2) {l : List (List UInt8)} {i : Nat} (hl : l.length ≤ 40) (hi : i ≤ l.length) (hs : sumN l ≤ (size.toNat : Int)) {g : GenM} (hg : genV g = true) (hn : newerM g (genK i) = true) {r : List UInt8} (hr : r.length ≤ 4096) (hfit : sumN (l.take i) + sizeM (r.length : Int) ≤ size) : appErr (cfgW size) d (tailK l i) g r = 0 := by
  refine appErr_of ⟨hd.1, hd.2, tailK_valid (N := size.toNat) (sum_le_of hs i) (by omega) (by omega), hg⟩ hn hr ?_
  rw [cfgW_logN h1, recN_val]
  exact hfit
theorem chI_app {size : Int} {S : ShelfM} {f0 : Nat → List UInt8} {l : List (List UInt8)} {i : Nat} (h : ChI size S f0 l i) (h1 : 1 ≤ size) (h2 : size ≤ 40) (hl : l.length ≤ 40) (hs : sumN l ≤ (size.toNat : Int)) {r : List UInt8} (hr : l[i]? = some r) (hr4 : r.length ≤ 4096) :
    ∃ S', appM S 1 (tailK l i) ⟨1, (i : Int) + 1⟩ r = (S', tailK l (i + 1), 0) ∧ ChI size S' f0 l (i + 1) := by
  have hi : i < l.length := by
    rcases Nat.lt_or_ge i l.length with h | h
    · exact h
    · rw [List.getElem?_eq_none h] at hr; cases hr
  have hlen : (l.take i).length = i := by rw [List.length_take]; omega
  have hts := take_snoc hr
  have hsum : sumN (l.take i) + sizeM (r.length : Int) ≤ size := by
    have := sum_le_of hs (i + 1)
    rw [hts, sumN_snoc] at this
    omega
  have hz := ch_err (g := ⟨1, (i : Int) + 1⟩) h1 h2 (d := 1) (by decide) hl (Nat.le_of_lt hi) hs (genV_iff.2 ⟨by simp, by simp only; omega, by simp, by simp only; omega⟩) (genK_newer i) hr4 hsum
  obtain ⟨S', e1, e2, e3, e4⟩ := appM_fine h.fine hz
  have hlast := tailK_last (l.take i) r
  rw [hlen, ← hts, tailK_take, tailK_take] at hlast
  refine ⟨S', by rw [e1, hlast, recN_val], e2, by rw [e4 0 (by decide)]; exact h.zero, ?_⟩
  have ha := h.log.app (d := 1) ⟨by decide, by decide⟩ (by omega) (by omega) hr4 (by rw [recN_val]; omega)
  rw [hlen, tailK_take, ← hts] at ha
  rw [e3]
  exact ha
theorem chI_last {size : Int} {S : ShelfM} {f0 : Nat → List UInt8} {l : List (List UInt8)} {k : Nat} (h : ChI size S f0 l k) (h1 : 1 ≤ size) (h2 : size ≤ 40) (hl : l.length ≤ 40) (hs : sumN l ≤ (size.toNat : Int)) {r other : List UInt8} (hr : l[k]? = some r) (hr4 : r.length ≤ 4096) (ho : other.length = r.length) :
    ∃ S', appM S 1 (tailK l k) ⟨2, 0⟩ other = (S', ⟨sumN (l.take (k + 1)), (k : Int) + 1, ⟨2, 0⟩⟩, 0) ∧ FineS (cfgW size) S' ∧ conL S' 0 = f0 ∧ LogL (conL S' 1) size.toNat 1 t0 (l.take k ++ [other]) ⟨sumN (l.take (k + 1)), (k : Int) + 1, ⟨2, 0⟩⟩ := by
  have hi : k < l.length := by
    rcases Nat.lt_or_ge k l.length with h | h
    · exact h
    · rw [List.getElem?_eq_none h] at hr; cases hr
  have hlen : (l.take k).length = k := by rw [List.length_take]; omega
  have hts := take_snoc hr
  have hsum : sumN (l.take k) + sizeM (r.length : Int) ≤ size := by
    have := sum_le_of hs (k + 1)
    rw [hts, sumN_snoc] at this
    omega
  have hnew : newerM ⟨2, 0⟩ (genK k) = true := by
    unfold genK newerM
    split <;> simp [g0]
  have hz := ch_err (g := ⟨2, 0⟩) h1 h2 (d := 1) (by decide) hl (Nat.le_of_lt hi) hs (by decide) hnew (r := other) (by omega) (by rw [ho]; exact hsum)
  obtain ⟨S', e1, e2, e3, e4⟩ := appM_fine h.fine hz
  have hnx : (tailK l k).next + (recN other : Int) = sumN (l.take (k + 1)) := by rw [recN_val, ho, hts, sumN_snoc]; rfl
  refine ⟨S', by rw [e1, hnx]; rfl, e2, by rw [e4 0 (by decide)]; exact h.zero, ?_⟩
  have hlog := h.log.log (by omega) (by omega) (k := 0) (Nat.zero_le _)
  rw [tailK_zero, List.drop_zero, hlen, tailK_take] at hlog
  have ha := hlog.app (d := 1) ⟨by decide, by decide⟩ (by omega) (g := ⟨2, 0⟩) (by decide) hnew (r := other) (by omega) (by rw [hnx]; exact sum_le_of hs _) (by show (k : Int) < 2147483647; omega)
  rw [e3]
  rw [← recN_val, hnx] at ha
  exact ha
/-- The further record: the same error on both, or it is read behind the log that it continues, and only there. -/
theorem ch_more {size : Int} {S S0 : ShelfM} {l : List (List UInt8)} {k : Nat} {other more : List UInt8} (h0 : InvK size S0 l) (h1 : 1 ≤ size) (h2 : size ≤ 40) (hl : l.length ≤ 40) (hk : k < l.length) (hf : FineS (cfgW size) S) (hz0 : conL S 0 = conL S0 0) (hlog : LogL (conL S 1) size.toNat 1 t0 (l.take k ++ [other]) ⟨sumN (l.take (k + 1)), (k : Int) + 1, ⟨2, 0⟩⟩) :
    (∃ er : Int, er ≠ 0 ∧ appM S 0 (tailK l (k + 1)) ⟨3, 0⟩ more = (S, noTail, er) ∧ appM S 1 (tailK l (k + 1)) ⟨3, 0⟩ more = (S, noTail, er)) ∨
    (∃ (S1 S2 : ShelfM) (u : TailM), appM S 0 (tailK l (k + 1)) ⟨3, 0⟩ more = (S1, u, 0) ∧ appM S1 1 (tailK l (k + 1)) ⟨3, 0⟩ more = (S2, u, 0) ∧ FineS (cfgW size) S2 ∧ ScanL (conL S2 0) size.toNat 0 t0 (l.take (k + 1) ++ [more]) u ∧ ScanL (conL S2 1) size.toNat 1 t0 (l.take k ++ [other]) ⟨sumN (l.take (k + 1)), (k : Int) + 1, ⟨2, 0⟩⟩) := by
  have herr : appErr (cfgW size) 1 (tailK l (k + 1)) ⟨3, 0⟩ more = appErr (cfgW size) 0 (tailK l (k + 1)) ⟨3, 0⟩ more := by
    unfold appErr
    have e : (0 ≤ (1 : Int) ∧ (1 : Int) < (cfgW size).disks ∧ tailV (tailK l (k + 1)) = true ∧ genV ⟨3, 0⟩ = true) ↔ (0 ≤ (0 : Int) ∧ (0 : Int) < (cfgW size).disks ∧ tailV (tailK l (k + 1)) = true ∧ genV ⟨3, 0⟩ = true) := by
      have h2 : (cfgW size).disks = 2 := rfl
      rw [h2]
      constructor <;> rintro ⟨_, _, a⟩ <;> exact ⟨by decide, by decide, a⟩
    simp only [e]
  by_cases hz : appErr (cfgW size) 0 (tailK l (k + 1)) ⟨3, 0⟩ more = 0
  · right
    obtain ⟨S1, e1, e2, e3, e4⟩ := appM_fine hf hz
    obtain ⟨S2, g1, g2, g3, g4⟩ := appM_fine e2 (herr.trans hz)
    obtain ⟨⟨_, _, ht, hg⟩, hnew, hs, hfit⟩ := appErr_none hz
    rw [cfgW_logN h1] at hfit
    have hfitN : (tailK l (k + 1)).next + (recN more : Int) ≤ (size.toNat : Int) := by omega
    refine ⟨S1, S2, _, e1, g1, g2, ?_, ?_⟩
    · rw [g4 0 (by decide), e3, hz0]
      have hcg : ∀ j : Nat, (j : Int) < (tailK l (k + 1)).next → conL S0 0 j = appF (conL S0 0) 0 (tailK l (k + 1)) ⟨3, 0⟩ more (recN more) j := fun j hj => by unfold appF; rw [if_neg (by omega)]
      have hnx := next_app (f := conL S0 0) (d := 0) ⟨by decide, by decide⟩ (show size.toNat ≤ 65536 by omega) ht hg hnew hs hfitN
      rw [← recN_val] at hnx
      refine ⟨((h0.log.pre (k + 1) (by omega)).congr (by decide) hcg).snoc hnx, ?_⟩
      have hnl : newerM ⟨3, 0⟩ (genK l.length) = true := by
        unfold genK newerM
        split <;> simp [g0]
      have hnn : 0 ≤ (tailK l (k + 1)).next := sumN_nonneg _
      exact OldL.none (t := ⟨(tailK l (k + 1)).next + (recN more : Int), (tailK l (k + 1)).number + 1, ⟨3, 0⟩⟩) (fun j hj x hx => old_app (d := 0) ⟨by decide, by decide⟩ (show size.toNat ≤ 65536 by omega) h0.log.old hnl (genK_valid (by omega)) ht hg hfitN j (Int.natCast_nonneg _) x hx) (by simp only; omega)
    · rw [g3, e4 1 (by decide)]
      have hnx : (tailK l (k + 1)).next = sumN (l.take (k + 1)) := rfl
      have hcg : ∀ j : Nat, (j : Int) < sumN (l.take (k + 1)) → conL S 1 j = appF (conL S 1) 1 (tailK l (k + 1)) ⟨3, 0⟩ more (recN more) j := fun j hj => by unfold appF; rw [if_neg (by rw [hnx]; omega)]
      refine ⟨hlog.chain.congr (by decide) hcg, ?_⟩
      have hrd := read_app (f := conL S 1) (d := 1) (n := recN more) (i := 0) ⟨by decide, by decide⟩ (show size.toNat ≤ 65536 by omega) ht hg hnew hs (recN_pos more) hfitN
      simp only [Nat.add_zero] at hrd
      rw [hnx] at hrd
      unfold nextL
      simp only
      rw [hrd]
      simp only
      rw [if_neg]
      rintro ⟨_, _, hb, _⟩
      have hb' := congrArg GenM.epoch hb
      have hge : (tailK l (k + 1)).gen = ⟨1, ((k + 1 : Nat) : Int)⟩ := by show genK (k + 1) = _; unfold genK; rw [if_neg (by omega)]
      rw [hge] at hb'
      simp at hb'
  · left
    exact ⟨_, hz, appM_err hf.cfg hz, by rw [appM_err hf.cfg (by rw [herr]; exact hz), herr]⟩
end Go.Proofs.Ytbegomjbakidmaa
