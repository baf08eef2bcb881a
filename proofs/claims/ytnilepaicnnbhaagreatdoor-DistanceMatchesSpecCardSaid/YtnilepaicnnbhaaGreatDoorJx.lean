/- package codelang: isLetter, isDigit, isWord, isField; slices.Min, slices.Max. -/
import Derived.Test.YtnilepaicnnbhaaGreatDoorJw
namespace Go.GF
open Go Go.RowKit
def letterB (x : Int) : Bool := decide (97 ≤ x) && decide (x ≤ 122)
def digitB (x : Int) : Bool := decide (48 ≤ x) && decide (x ≤ 57)
def byteI (s : ByteArray) (k : Nat) : Int := (((s.data[k]?).getD 0).toNat : Int)
theorem byteI_at {s : ByteArray} {k : Nat} (h : k < s.size) : ((s[k].toNat : Nat) : Int) = byteI s k := by
  unfold byteI
  have h' : k < s.data.size := h
  rw [Array.getElem?_eq_getElem h']
  rfl
theorem empty_size (s : ByteArray) : (!s.toList.isEmpty) = (s.size != 0) := by
  rw [ByteArray.toList_eq s]
  cases s with
  | mk d =>
    show (!d.toList.isEmpty) = (d.size != 0)
    cases h : d.toList with
    | nil => rw [Array.toList_eq_nil_iff] at h; subst h; rfl
    | cons x l =>
      have : d.size ≠ 0 := by
        intro h0
        rw [Array.size_eq_zero_iff] at h0
        subst h0; cases h
      simp [this]
def okB (s : ByteArray) (k : Nat) : Bool := letterB (byteI s k) || (k != 0 && digitB (byteI s k))
/-- A word. -/
def wordB (s : ByteArray) : Bool := s.size != 0 && (List.range s.size).all (okB s)
/-- The smallest (greatest) element of the first n + 1. -/
def mnK (f : Int → Int → Int) (L : List Int) : Nat → Int
  | 0 => (L[0]?).getD 0
  | n + 1 => f (mnK f L n) ((L[n + 1]?).getD 0)
end Go.GF
namespace Go.Proofs.YtnilepaicnnbhaaGreatDoor
open Go.RowKit Go.GF Go.Sl

set_option maxRecDepth 20000 in
theorem letter_any (x : Int) (w : World) : Calls Tryz.prog 54 #[.int .u8 x] w fun e w' => e = .returned (.bool (letterB x)) ∧ w' = w := by
  by_cases h1 : 97 ≤ x
  · have d1 : decide (97 ≤ x) = true := decide_eq_true h1
    unfold letterB
    rw [d1]
    clear h1
    go_enter Tryz.func54, Tryz.ntmps54
    go_wp2
    go_ret
    exact ⟨rfl, rfl⟩
  · have d1 : decide (97 ≤ x) = false := decide_eq_false h1
    unfold letterB
    rw [d1]
    clear h1
    go_enter Tryz.func54, Tryz.ntmps54
    go_wp2
    go_ret
    exact ⟨rfl, rfl⟩
set_option maxRecDepth 20000 in
theorem digit_any (x : Int) (w : World) : Calls Tryz.prog 55 #[.int .u8 x] w fun e w' => e = .returned (.bool (digitB x)) ∧ w' = w := by
  by_cases h1 : 48 ≤ x
  · have d1 : decide (48 ≤ x) = true := decide_eq_true h1
    unfold digitB
    rw [d1]
    clear h1
    go_enter Tryz.func55, Tryz.ntmps55
    go_wp2
    go_ret
    exact ⟨rfl, rfl⟩
  · have d1 : decide (48 ≤ x) = false := decide_eq_false h1
    unfold digitB
    rw [d1]
    clear h1
    go_enter Tryz.func55, Tryz.ntmps55
    go_wp2
    go_ret
    exact ⟨rfl, rfl⟩
set_option maxRecDepth 20000 in
theorem isfield_any (x : Int) (w : World) : Calls Tryz.prog 35 #[.int .i64 x] w fun e w' => e = .returned (.bool (x == 8 || x == 16)) ∧ w' = w := by
  cases h1 : (x == 8) with
  | true =>
    go_enter Tryz.func35, Tryz.ntmps35
    go_wp2
    go_ret
    exact ⟨rfl, rfl⟩
  | false =>
    go_enter Tryz.func35, Tryz.ntmps35
    go_wp2
    go_ret
    exact ⟨rfl, rfl⟩
structure MinSt2 (w : World) (L : List Int) (m i : Value) (wr : World) : Prop where
  st : ∃ n : Nat, n < L.length ∧ i = .int .i64 (((n : Nat) : Int) + 1) ∧ m = .int .i64 (mnK min L n) ∧ wr = w
set_option maxRecDepth 20000 in
set_option maxHeartbeats 1000000 in
theorem min_any (v : Value) (L : List Int) (h0 : 0 < L.length) (w : World) (hv : RowI w v (intsV L)) :
    Calls Tryz.prog 36 #[v] w fun e w' => e = .returned (.int .i64 (mnK min L (L.length - 1))) ∧ w' = w := by
  obtain ⟨ao, cp, rfl, hlc, hcm, hrow⟩ := hv
  rw [intsV_len] at *
  unfold maxLen at hcm
  obtain ⟨b, off, rfl, hbl, hc⟩ := hrow h0
  obtain ⟨x0, hx0⟩ : ∃ x, L[0]? = some x := ⟨_, List.getElem?_eq_getElem h0⟩
  have c0 := hc 0 _ (intsV_at hx0)
  rw [Nat.add_zero] at c0
  have HC := Lib.hid hc
  have hl63 : (L.length : Int) ≤ 9223372036854775807 := by omega
  have hd0 : decide ((L.length : Int) < 1) = false := decide_eq_false (by omega)
  have HX := Lib.hid (show mnK min L 0 = x0 by unfold mnK; rw [hx0]; rfl)
  clear hrow hc hlc hcm hx0 hbl
  go_enter Tryz.func36, Tryz.ntmps36
  go_wp2
  go_loopw [3, 4] (fun m i wr => MinSt2 w L m i wr) (fun _ i _ => L.length - (intOf i).toNat)
  case atStart => exact ⟨⟨0, h0, by simp, by rw [HX.out], rfl⟩⟩
  case round =>
    obtain ⟨n, hn, rfl, rfl, rfl⟩ := hrel.st
    clear hrel c0
    by_cases hlt : n + 1 < L.length
    · have hltd : decide ((n : Int) + 1 < (L.length : Int)) = true := decide_eq_true (by omega)
      obtain ⟨x, hx⟩ : ∃ x, L[n + 1]? = some x := ⟨_, List.getElem?_eq_getElem hlt⟩
      have c1 := HC.out (n + 1) _ (intsV_at hx)
      have hwk : IntKind.i64.wrap ((n : Int) + 1 + 1) = (n : Int) + 1 + 1 := IntWalk.i64_in _ (by omega)
      have HS := Lib.hid (show mnK min L (n + 1) = min (mnK min L n) x by show min _ _ = _; rw [hx]; rfl)
      clear hx
      generalize mnK min L n = y at *
      go_wp2
      go_roundw
      case rel => exact ⟨⟨n + 1, hlt, by simp, by rw [HS.out], rfl⟩⟩
      case measure => simp only [intOf]; omega
    · have hne : n = L.length - 1 := by omega
      have hltd : decide ((n : Int) + 1 < (L.length : Int)) = false := decide_eq_false (by omega)
      go_wp2
      go_ret
      exact ⟨by rw [← hne]; rfl, rfl⟩
structure MaxSt2 (w : World) (L : List Int) (m i : Value) (wr : World) : Prop where
  st : ∃ n : Nat, n < L.length ∧ i = .int .i64 (((n : Nat) : Int) + 1) ∧ m = .int .i64 (mnK max L n) ∧ wr = w
set_option maxRecDepth 20000 in
set_option maxHeartbeats 1000000 in
theorem max_any (v : Value) (L : List Int) (h0 : 0 < L.length) (w : World) (hv : RowI w v (intsV L)) :
    Calls Tryz.prog 37 #[v] w fun e w' => e = .returned (.int .i64 (mnK max L (L.length - 1))) ∧ w' = w := by
  obtain ⟨ao, cp, rfl, hlc, hcm, hrow⟩ := hv
  rw [intsV_len] at *
  unfold maxLen at hcm
  obtain ⟨b, off, rfl, hbl, hc⟩ := hrow h0
  obtain ⟨x0, hx0⟩ : ∃ x, L[0]? = some x := ⟨_, List.getElem?_eq_getElem h0⟩
  have c0 := hc 0 _ (intsV_at hx0)
  rw [Nat.add_zero] at c0
  have HC := Lib.hid hc
  have hl63 : (L.length : Int) ≤ 9223372036854775807 := by omega
  have hd0 : decide ((L.length : Int) < 1) = false := decide_eq_false (by omega)
  have HX := Lib.hid (show mnK max L 0 = x0 by unfold mnK; rw [hx0]; rfl)
  clear hrow hc hlc hcm hx0 hbl
  go_enter Tryz.func37, Tryz.ntmps37
  go_wp2
  go_loopw [3, 4] (fun m i wr => MaxSt2 w L m i wr) (fun _ i _ => L.length - (intOf i).toNat)
  case atStart => exact ⟨⟨0, h0, by simp, by rw [HX.out], rfl⟩⟩
  case round =>
    obtain ⟨n, hn, rfl, rfl, rfl⟩ := hrel.st
    clear hrel c0
    by_cases hlt : n + 1 < L.length
    · have hltd : decide ((n : Int) + 1 < (L.length : Int)) = true := decide_eq_true (by omega)
      obtain ⟨x, hx⟩ : ∃ x, L[n + 1]? = some x := ⟨_, List.getElem?_eq_getElem hlt⟩
      have c1 := HC.out (n + 1) _ (intsV_at hx)
      have hwk : IntKind.i64.wrap ((n : Int) + 1 + 1) = (n : Int) + 1 + 1 := IntWalk.i64_in _ (by omega)
      have HS := Lib.hid (show mnK max L (n + 1) = max (mnK max L n) x by show max _ _ = _; rw [hx]; rfl)
      clear hx
      generalize mnK max L n = y at *
      go_wp2
      go_roundw
      case rel => exact ⟨⟨n + 1, hlt, by simp, by rw [HS.out], rfl⟩⟩
      case measure => simp only [intOf]; omega
    · have hne : n = L.length - 1 := by omega
      have hltd : decide ((n : Int) + 1 < (L.length : Int)) = false := decide_eq_false (by omega)
      go_wp2
      go_ret
      exact ⟨by rw [← hne]; rfl, rfl⟩

structure WdSt (w : World) (s : ByteArray) (i : Value) (wr : World) : Prop where
  st : ∃ k : Nat, k ≤ s.size ∧ i = .int .i64 (k : Int) ∧ (List.range k).all (okB s) = true ∧ wr = w
set_option maxRecDepth 20000 in
set_option maxHeartbeats 1000000 in
theorem word_any (s : ByteArray) (hs : s.size ≤ maxLen) (w : World) : Calls Tryz.prog 34 #[.string s] w fun e w' => e = .returned (.bool (wordB s)) ∧ w' = w := by
  unfold maxLen at hs
  have hl63 : (s.size : Int) ≤ 9223372036854775807 := by omega
  go_enter Tryz.func34, Tryz.ntmps34
  go_wp2
  go_loopw [6] (fun i wr => WdSt w s i wr) (fun i _ => s.size - (intOf i).toNat)
  case atStart => exact ⟨⟨0, by omega, rfl, rfl, rfl⟩⟩
  case round =>
    obtain ⟨k, hk, rfl, ha, rfl⟩ := hrel.st
    clear hrel
    by_cases hlt : k < s.size
    · have hltd : decide ((k : Int) < (s.size : Int)) = true := decide_eq_true (by omega)
      have hwk : IntKind.i64.wrap ((k : Int) + 1) = (k : Int) + 1 := IntWalk.i64_in _ (by omega)
      have hby := byteI_at hlt
      have HS := Lib.hid (show (List.range (k + 1)).all (okB s) = okB s k by rw [List.range_succ, List.all_append, ha]; simp)
      have HN := Lib.hid (show okB s k = false → wordB s = false from fun h => by
        unfold wordB
        have : (List.range s.size).all (okB s) = false := by
          rw [List.all_eq_false]
          exact ⟨k, List.mem_range.2 hlt, by simp [h]⟩
        rw [this]; simp)
      clear ha
      cases hL : letterB (byteI s k) with
      | true =>
        have HO := Lib.hid (show okB s k = true by unfold okB; rw [hL]; rfl)
        go_wp2_with (go_at_call 54; refine (letter_any _ _).mono ?_; rintro e w1 ⟨rfl, rfl⟩; rw [hL])
        go_roundw
        case rel => exact ⟨⟨k + 1, hlt, rfl, by rw [HS.out]; exact HO.out, rfl⟩⟩
        case measure => simp only [intOf]; omega
      | false =>
        by_cases hk0 : k = 0
        · subst hk0
          have HO := Lib.hid (show okB s 0 = false by unfold okB; rw [hL]; rfl)
          go_wp2_with (go_at_call 54; refine (letter_any _ _).mono ?_; rintro e w1 ⟨rfl, rfl⟩; rw [hL])
          go_ret
          exact ⟨by rw [HN.out HO.out]; rfl, rfl⟩
        · have hk0d : ((k : Int) == 0) = false := by rw [beq_eq_false_iff_ne]; omega
          have HK := Lib.hid hk0
          clear hk0
          cases hD : digitB (byteI s k) with
          | true =>
            have HO := Lib.hid (show okB s k = true by unfold okB; rw [hL, hD]; simp [HK.out])
            go_wp2_with first
              | (go_at_call 54; refine (letter_any _ _).mono ?_; rintro e w1 ⟨rfl, rfl⟩; rw [hL])
              | (go_at_call 55; refine (digit_any _ _).mono ?_; rintro e w1 ⟨rfl, rfl⟩; rw [hD])
            go_roundw
            case rel => exact ⟨⟨k + 1, hlt, rfl, by rw [HS.out]; exact HO.out, rfl⟩⟩
            case measure => simp only [intOf]; omega
          | false =>
            have HO := Lib.hid (show okB s k = false by unfold okB; rw [hL, hD]; simp)
            go_wp2_with first
              | (go_at_call 54; refine (letter_any _ _).mono ?_; rintro e w1 ⟨rfl, rfl⟩; rw [hL])
              | (go_at_call 55; refine (digit_any _ _).mono ?_; rintro e w1 ⟨rfl, rfl⟩; rw [hD])
            go_ret
            exact ⟨by rw [HN.out HO.out]; rfl, rfl⟩
    · have hke : k = s.size := by omega
      have hltd : decide ((k : Int) < (s.size : Int)) = false := decide_eq_false (by omega)
      have HA := Lib.hid (show wordB s = (s.size != 0) by unfold wordB; rw [← hke, ha]; simp)
      clear ha
      go_wp2
      go_ret
      exact ⟨by rw [HA.out, ← empty_size]; rfl, rfl⟩
end Go.Proofs.YtnilepaicnnbhaaGreatDoor
