/- volume's and tree's small functions: blockOK, tenantOK, valid, slot, Len. -/
import Derived.Test.YtednjhlkhecihaaVs
import Derived.Test.YtednjhlkhecihaaVb
import Derived.Test.YtednjhlkhecihaaProg
import Derived.WalkKit
import Derived.Lib.Hide
import Derived.Deep.Cut
import Derived.Deep.QuietTactic
import Derived.BigQuiet
import Derived.IntWalk
import Derived.WalkSmall
namespace Go.Proofs.Ytednjhlkhecihaa
open Go.RowKit Go.Vol

abbrev TNode : TypeId := 153
abbrev TTree : TypeId := 86

theorem blockOK_any (n : Int) (w : World) : Calls Try.prog 36 #[.int .i64 n] w fun e w' => e = .returned (.bool (blkB n)) ∧ w = w' := by
  unfold blkB
  by_cases h0 : 0 ≤ n
  · by_cases h1 : n < 4096
    · go_enter Try.func36, Try.ntmps36
      go_wp2
      go_ret
      simp [h0, h1]
    · have h1d : decide (n < 4096) = false := decide_eq_false h1
      go_enter Try.func36, Try.ntmps36
      go_wp2
      go_ret
      simp
  · have h0d : decide (0 ≤ n) = false := decide_eq_false h0
    go_enter Try.func36, Try.ntmps36
    go_wp2
    go_ret
    simp
theorem valid_any (n : Int) (w : World) : Calls Try.prog 77 #[.int .i64 n] w fun e w' => e = .returned (.bool (blkB n)) ∧ w = w' := by
  unfold blkB
  by_cases h0 : 0 ≤ n
  · by_cases h1 : n < 4096
    · go_enter Try.func77, Try.ntmps77
      go_wp2
      go_ret
      simp [h0, h1]
    · have h1d : decide (n < 4096) = false := decide_eq_false h1
      go_enter Try.func77, Try.ntmps77
      go_wp2
      go_ret
      simp
  · have h0d : decide (0 ≤ n) = false := decide_eq_false h0
    go_enter Try.func77, Try.ntmps77
    go_wp2
    go_ret
    simp
theorem tenantOK_any (n : Int) (w : World) : Calls Try.prog 67 #[.int .i64 n] w fun e w' => e = .returned (.bool (tenB n)) ∧ w = w' := by
  unfold tenB
  by_cases h0 : 0 ≤ n
  · by_cases h1 : n < 16
    · go_enter Try.func67, Try.ntmps67
      go_wp2
      go_ret
      simp [h0, h1]
    · have h1d : decide (n < 16) = false := decide_eq_false h1
      go_enter Try.func67, Try.ntmps67
      go_wp2
      go_ret
      simp
  · have h0d : decide (0 ≤ n) = false := decide_eq_false h0
    go_enter Try.func67, Try.ntmps67
    go_wp2
    go_ret
    simp

/-- The index of a block in a node of a level. -/
def slotN (L b : Nat) : Nat := b / 16 ^ L % 16
theorem slotN_lt (L b : Nat) : slotN L b < 16 := Nat.mod_lt _ (by omega)
theorem slot_any (L b : Nat) (hL : L ≤ 2) (hb : b < 4096) (w : World) : Calls Try.prog 99 #[.int .i64 (L : Int), .int .i64 (b : Int)] w fun e w' => e = .returned (.int .i64 (slotN L b : Int)) ∧ w = w' := by
  unfold slotN
  match L, hL with
  | 0, _ =>
    have h0 := and15 b hb
    have H0 := Lib.hid h0
    clear h0
    go_enter Try.func99, Try.ntmps99
    go_wp2
    go_ret
    exact ⟨by rw [H0.out]; simp, rfl⟩
  | 1, _ =>
    have h0 := and15 (b / 16) (by omega)
    have H0 := Lib.hid h0
    clear h0
    go_enter Try.func99, Try.ntmps99
    go_wp2
    go_ret
    exact ⟨by rw [← H0.out]; simp, rfl⟩
  | 2, _ =>
    have h0 := and15 (b / 256) (by omega)
    have H0 := Lib.hid h0
    clear h0
    go_enter Try.func99, Try.ntmps99
    go_wp2
    go_ret
    exact ⟨by rw [← H0.out]; simp, rfl⟩
end Go.Proofs.Ytednjhlkhecihaa
