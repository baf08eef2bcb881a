/- Bits of a mask of sixteen. It speaks of no program. -/
import Derived.Test.YtednjhlkhecihaaVm
import Derived.Laws.BitsAllLaws
import Derived.IntWalk
namespace Go.Vol
open Go Go.RowKit

theorem i64_and_nat (a b : Nat) (ha : a < 4611686018427387904) (hb : b < 4611686018427387904) : bits .and .i64 (a : Int) (b : Int) = ((a &&& b : Nat) : Int) := by
  have hx : a &&& b < 2 ^ 62 := Nat.and_lt_two_pow _ (by omega)
  have h1 : (BitVec.ofInt 64 (a : Int)).toNat = a := by
    rw [BitVec.ofInt_natCast, BitVec.toNat_ofNat]; exact Nat.mod_eq_of_lt (by omega)
  have h2 : (BitVec.ofInt 64 (b : Int)).toNat = b := by
    rw [BitVec.ofInt_natCast, BitVec.toNat_ofNat]; exact Nat.mod_eq_of_lt (by omega)
  show IntKind.i64.wrap ((BitVec.ofInt 64 (a : Int) &&& BitVec.ofInt 64 (b : Int)).toNat : Int) = _
  rw [BitVec.toNat_and, h1, h2]
  exact IntWalk.i64_in _ (by omega)
/-- 'x & 15', x no greater than a block's number. -/
theorem and15 (a : Nat) (ha : a < 4096) : bits .and .i64 (a : Int) 15 = ((a % 16 : Nat) : Int) := by
  have := i64_and_nat a 15 (by omega) (by omega)
  rw [nat_mask4] at this
  exact this
/-- 'x>>i&1' of a mask. -/
theorem bit1 (x i : Nat) (hx : x < 65536) : bits .and .u16 ((x : Int) / 2 ^ i) 1 = if x.testBit i then 1 else 0 := by
  have ec : ((x : Int) / 2 ^ i) = ((x / 2 ^ i : Nat) : Int) := by simp
  rw [ec]
  have hle : x / 2 ^ i ≤ x := Nat.div_le_self _ _
  have := u16_and_nat (x / 2 ^ i) 1 (by omega) (by omega)
  rw [nat_mask1] at this
  rw [show (1 : Int) = ((1 : Nat) : Int) from rfl, this, Nat.testBit_eq_decide_div_mod_eq]
  have h2 := Nat.mod_two_eq_zero_or_one (x / 2 ^ i)
  rcases h2 with h | h <;> simp [h]
theorem or_shl (x s : Nat) (hx : x < 65536) (hs : s < 16) : bits .or .u16 (x : Int) ((1 <<< s : Nat) : Int) = ((x ||| (1 <<< s) : Nat) : Int) := by
  have : 1 <<< s < 65536 := by rw [Nat.one_shiftLeft]; exact Nat.lt_of_lt_of_le (Nat.pow_lt_pow_right (by omega) hs) (by omega)
  exact u16_or_nat x _ hx this
theorem andNot_shl (x s : Nat) (hx : x < 65536) (hs : s < 16) (h1 : x.testBit s = true) : bits .andNot .u16 (x : Int) ((1 <<< s : Nat) : Int) = ((x ^^^ (1 <<< s) : Nat) : Int) := by
  have hlt : 1 <<< s < 65536 := by rw [Nat.one_shiftLeft]; exact Nat.lt_of_lt_of_le (Nat.pow_lt_pow_right (by omega) hs) (by omega)
  rw [u16_andNot_nat x _ hx hlt]
  congr 1
  apply Nat.eq_of_testBit_eq
  intro i
  have e : 65535 - 1 <<< s = 2 ^ 16 - (1 <<< s + 1) := by omega
  rw [Nat.testBit_and, Nat.testBit_xor, e, Nat.testBit_two_pow_sub_succ hlt, Nat.one_shiftLeft, Nat.testBit_two_pow]
  by_cases his : s = i
  · subst his; simp [h1]
  · by_cases hi : i < 16
    · simp [his, hi]
    · have : x.testBit i = false := Nat.testBit_lt_two_pow (Nat.lt_of_lt_of_le hx (by
        have := Nat.pow_le_pow_right (n := 2) (by omega) (show 16 ≤ i by omega)
        omega))
      simp [his, this]
end Go.Vol
