/- solventref07: letter, digit, word. -/
import Derived.Test.YtnilepaicnnbhaaGreatDoorJx
namespace Go.GF
open Go Go.RowKit
def okR (s : ByteArray) (k : Nat) : Bool := letterB (byteI s k) || digitB (byteI s k)
theorem word_ref (s : ByteArray) : wordB s = (s.size != 0 && (letterB (byteI s 0) && (List.range s.size).all (okR s))) := by
  unfold wordB
  by_cases h0 : s.size = 0
  · rw [h0]; rfl
  · rw [show (s.size != 0) = true by simpa using h0, Bool.true_and, Bool.true_and, Bool.eq_iff_iff, Bool.and_eq_true, List.all_eq_true, List.all_eq_true]
    constructor
    · intro h
      have hl := h 0 (List.mem_range.2 (by omega))
      refine ⟨by simpa [okB] using hl, fun k hk => ?_⟩
      have := h k hk
      unfold okB at this
      unfold okR
      simp only [Bool.or_eq_true, Bool.and_eq_true] at this ⊢
      exact this.imp id (·.2)
    · rintro ⟨hl, h⟩ k hk
      have := h k hk
      unfold okR at this
      unfold okB
      by_cases hk0 : k = 0
      · subst hk0; rw [hl]; rfl
      · rw [show (k != 0) = true by simpa using hk0, Bool.true_and]; exact this
end Go.GF
namespace Go.Proofs.YtnilepaicnnbhaaGreatDoor
open Go.RowKit Go.GF Go.Sl
set_option maxRecDepth 20000 in
theorem r7letter_any (x : Int) (w : World) : Calls Tryz.prog 79 #[.int .u8 x] w fun e w' => e = .returned (.bool (letterB x)) ∧ w' = w := by
  by_cases h1 : 97 ≤ x
  · have d1 : decide (97 ≤ x) = true := decide_eq_true h1
    unfold letterB
    rw [d1]
    clear h1
    go_enter Tryz.func79, Tryz.ntmps79
    go_wp2
    go_ret
    exact ⟨rfl, rfl⟩
  · have d1 : decide (97 ≤ x) = false := decide_eq_false h1
    unfold letterB
    rw [d1]
    clear h1
    go_enter Tryz.func79, Tryz.ntmps79
    go_wp2
    go_ret
    exact ⟨rfl, rfl⟩
set_option maxRecDepth 20000 in
theorem r7digit_any (x : Int) (w : World) : Calls Tryz.prog 80 #[.int .u8 x] w fun e w' => e = .returned (.bool (digitB x)) ∧ w' = w := by
  by_cases h1 : 48 ≤ x
  · have d1 : decide (48 ≤ x) = true := decide_eq_true h1
    unfold digitB
    rw [d1]
    clear h1
    go_enter Tryz.func80, Tryz.ntmps80
    go_wp2
    go_ret
    exact ⟨rfl, rfl⟩
  · have d1 : decide (48 ≤ x) = false := decide_eq_false h1
    unfold digitB
    rw [d1]
    clear h1
    go_enter Tryz.func80, Tryz.ntmps80
    go_wp2
    go_ret
    exact ⟨rfl, rfl⟩
structure R7S (w : World) (s : ByteArray) (i : Value) (wr : World) : Prop where
  st : ∃ k : Nat, k ≤ s.size ∧ i = .int .i64 (k : Int) ∧ (List.range k).all (okR s) = true ∧ wr = w
set_option maxRecDepth 20000 in
set_option maxHeartbeats 1000000 in
theorem r7word_any (s : ByteArray) (hs : s.size ≤ maxLen) (w : World) : Calls Tryz.prog 64 #[.string s] w fun e w' => e = .returned (.bool (wordB s)) ∧ w' = w := by
  unfold maxLen at hs
  have hl63 : (s.size : Int) ≤ 9223372036854775807 := by omega
  have HWR := Lib.hid (word_ref s)
  by_cases h0 : s.size = 0
  · have he : s = ⟨#[]⟩ := by
      cases s with
      | mk d => congr 1; exact Array.size_eq_zero_iff.1 h0
    subst he
    clear h0
    go_enter Tryz.func64, Tryz.ntmps64
    go_wp2
    go_ret
    exact ⟨rfl, rfl⟩
  have hp : 0 < s.size := by omega
  have hne : s.toList.isEmpty = false := by
    have := empty_size s
    rw [show (s.size != 0) = true by simpa using h0] at this
    simpa using this
  have hby0 := byteI_at hp
  rw [show (s.size != 0) = true by simpa using h0, Bool.true_and] at HWR
  have H0 := Lib.hid h0
  clear h0
  cases hL0 : letterB (byteI s 0) with
  | false =>
    rw [hL0, Bool.false_and] at HWR
    go_enter Tryz.func64, Tryz.ntmps64
    go_wp2_with (go_at_call 79; refine (r7letter_any _ _).mono ?_; rintro e w1 ⟨rfl, rfl⟩; rw [hL0])
    go_ret
    exact ⟨by rw [HWR.out]; rfl, rfl⟩
  | true =>
    rw [hL0, Bool.true_and] at HWR
    go_enter Tryz.func64, Tryz.ntmps64
    go_wp2_with (go_at_call 79; refine (r7letter_any _ _).mono ?_; rintro e w1 ⟨rfl, rfl⟩; rw [hL0])
    clear hby0 hL0 hne
    go_loopw [3] (fun i wr => R7S w1 s i wr) (fun i _ => s.size - (intOf i).toNat)
    case atStart => exact ⟨⟨0, by omega, rfl, rfl, rfl⟩⟩
    case round =>
      obtain ⟨k, hk, rfl, ha, rfl⟩ := hrel.st
      clear hrel
      by_cases hlt : k < s.size
      · have hltd : decide ((k : Int) < (s.size : Int)) = true := decide_eq_true (by omega)
        have hwk : IntKind.i64.wrap ((k : Int) + 1) = (k : Int) + 1 := IntWalk.i64_in _ (by omega)
        have hby := byteI_at hlt
        have HS := Lib.hid (show (List.range (k + 1)).all (okR s) = okR s k by rw [List.range_succ, List.all_append, ha]; simp)
        have HN := Lib.hid (show okR s k = false → wordB s = false from fun h => by
          rw [HWR.out, List.all_eq_false]
          exact ⟨k, List.mem_range.2 hlt, by simp [h]⟩)
        clear ha
        cases hL : letterB (byteI s k) with
        | true =>
          have HO := Lib.hid (show okR s k = true by unfold okR; rw [hL]; rfl)
          go_wp2_with (go_at_call 79; refine (r7letter_any _ _).mono ?_; rintro e w1 ⟨rfl, rfl⟩; rw [hL])
          go_roundw
          case rel => exact ⟨⟨k + 1, hlt, rfl, by rw [HS.out]; exact HO.out, rfl⟩⟩
          case measure => simp only [intOf]; omega
        | false =>
          cases hD : digitB (byteI s k) with
          | true =>
            have HO := Lib.hid (show okR s k = true by unfold okR; rw [hL, hD]; rfl)
            go_wp2_with first
              | (go_at_call 79; refine (r7letter_any _ _).mono ?_; rintro e w1 ⟨rfl, rfl⟩; rw [hL])
              | (go_at_call 80; refine (r7digit_any _ _).mono ?_; rintro e w1 ⟨rfl, rfl⟩; rw [hD])
            go_roundw
            case rel => exact ⟨⟨k + 1, hlt, rfl, by rw [HS.out]; exact HO.out, rfl⟩⟩
            case measure => simp only [intOf]; omega
          | false =>
            have HO := Lib.hid (show okR s k = false by unfold okR; rw [hL, hD]; rfl)
            go_wp2_with first
              | (go_at_call 79; refine (r7letter_any _ _).mono ?_; rintro e w1 ⟨rfl, rfl⟩; rw [hL])
              | (go_at_call 80; refine (r7digit_any _ _).mono ?_; rintro e w1 ⟨rfl, rfl⟩; rw [hD])
            go_ret
            exact ⟨by rw [HN.out HO.out]; rfl, rfl⟩
      · have hke : k = s.size := by omega
        have hltd : decide ((k : Int) < (s.size : Int)) = false := decide_eq_false (by omega)
        rw [hke] at ha
        have HA := Lib.hid (show wordB s = true by rw [HWR.out]; exact ha)
        clear ha
        go_wp2
        go_ret
        exact ⟨by rw [HA.out]; rfl, rfl⟩
end Go.Proofs.YtnilepaicnnbhaaGreatDoor
