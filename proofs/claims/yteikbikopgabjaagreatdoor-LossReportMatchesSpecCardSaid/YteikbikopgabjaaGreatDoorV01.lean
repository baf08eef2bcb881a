import Derived.WalkKit
import Derived.Laws.BitsAllLaws
import Derived.IntWalk
/- Part 1 of a proof; the last part says what is proved. -/
namespace Go.Sha
open Go
def xor32 (a b : Nat) : Nat := (a ^^^ b) % 4294967296
def and32 (a b : Nat) : Nat := (a &&& b) % 4294967296
def or32 (a b : Nat) : Nat := (a ||| b) % 4294967296
def add32 (a b : Nat) : Nat := (a + b) % 4294967296
def shl32 (a s : Nat) : Nat := (a <<< s) % 4294967296
def shr32 (a s : Nat) : Nat := (a >>> s) % 4294967296
theorem ofInt32 (a : Nat) : (BitVec.ofInt 32 (a : Int)).toNat = a % 4294967296 := by rw [BitVec.ofInt_natCast, BitVec.toNat_ofNat]
theorem bits_u32 (op : BinOp) (f : BitVec 32 → BitVec 32 → BitVec 32) (a b : Nat) (h : bits op .u32 (a : Int) (b : Int) = IntKind.u32.wrap ((f (BitVec.ofInt 32 (a : Int)) (BitVec.ofInt 32 (b : Int))).toNat : Int)) :
    bits op .u32 (a : Int) (b : Int) = ((f (BitVec.ofInt 32 (a : Int)) (BitVec.ofInt 32 (b : Int))).toNat : Int) := by
  rw [h, IntKind.wrap_u32']
  have := (f (BitVec.ofInt 32 (a : Int)) (BitVec.ofInt 32 (b : Int))).isLt
  omega
theorem o_xor (t : TypeId) (a b : Nat) : binOp .xor t (.int .u32 (a : Int)) (.int .u32 (b : Int)) = pure (.int .u32 ((xor32 a b : Nat) : Int)) := by
  rw [binOp_xor]
  show (pure (Value.int .u32 (bits .xor .u32 (a : Int) (b : Int))) : Sem Value) = _
  rw [bits_u32 .xor (· ^^^ ·) a b rfl, BitVec.toNat_xor, ofInt32, ofInt32]
  unfold xor32
  rw [← Nat.xor_mod_two_pow (n := 32)]
theorem o_and (t : TypeId) (a b : Nat) : binOp .and t (.int .u32 (a : Int)) (.int .u32 (b : Int)) = pure (.int .u32 ((and32 a b : Nat) : Int)) := by
  rw [binOp_and]
  show (pure (Value.int .u32 (bits .and .u32 (a : Int) (b : Int))) : Sem Value) = _
  rw [bits_u32 .and (· &&& ·) a b rfl, BitVec.toNat_and, ofInt32, ofInt32]
  unfold and32
  rw [← Nat.and_mod_two_pow (n := 32)]
theorem o_or (t : TypeId) (a b : Nat) : binOp .or t (.int .u32 (a : Int)) (.int .u32 (b : Int)) = pure (.int .u32 ((or32 a b : Nat) : Int)) := by
  rw [binOp_or]
  show (pure (Value.int .u32 (bits .or .u32 (a : Int) (b : Int))) : Sem Value) = _
  rw [bits_u32 .or (· ||| ·) a b rfl, BitVec.toNat_or, ofInt32, ofInt32]
  unfold or32
  rw [← Nat.or_mod_two_pow (n := 32)]
theorem o_add (t : TypeId) (a b : Nat) : binOp .add t (.int .u32 (a : Int)) (.int .u32 (b : Int)) = pure (.int .u32 ((add32 a b : Nat) : Int)) := by
  show (pure (Value.int .u32 (IntKind.u32.wrap ((a : Int) + (b : Int)))) : Sem Value) = _
  rw [IntKind.wrap_u32']
  unfold add32
  congr 2
theorem o_shl (t : TypeId) (yk : IntKind) (a : Nat) (s : Int) (h0 : 0 ≤ s) (h1 : s ≤ 32) : binOp .shl t (.int .u32 (a : Int)) (.int yk s) = pure (.int .u32 ((shl32 a s.toNat : Nat) : Int)) := by
  obtain ⟨n, rfl⟩ := Int.eq_ofNat_of_zero_le h0
  rw [binOp_shl, shift_shl_any _ _ _ _ (by omega), show min (n : Int).toNat IntKind.u32.bits = n by show min (n : Int).toNat 32 = n; omega]
  rw [Int.toNat_natCast, IntKind.wrap_u32']
  unfold shl32
  rw [Nat.shiftLeft_eq]
  congr 2
theorem o_shr (t : TypeId) (yk : IntKind) (a : Nat) (s : Int) (h0 : 0 ≤ s) (h1 : s ≤ 32) (ha : a < 4294967296) : binOp .shr t (.int .u32 (a : Int)) (.int yk s) = pure (.int .u32 ((shr32 a s.toNat : Nat) : Int)) := by
  obtain ⟨n, rfl⟩ := Int.eq_ofNat_of_zero_le h0
  rw [binOp_shr, shift_shr_any _ _ _ _ (by omega), show min (n : Int).toNat IntKind.u32.bits = n by show min (n : Int).toNat 32 = n; omega]
  rw [Int.toNat_natCast]
  unfold shr32
  rw [Nat.shiftRight_eq_div_pow, Nat.mod_eq_of_lt (Nat.lt_of_le_of_lt (Nat.div_le_self _ _) ha)]
  congr 2
theorem or32_lt (a b : Nat) : or32 a b < 4294967296 := Nat.mod_lt _ (by decide)
theorem add32_lt (a b : Nat) : add32 a b < 4294967296 := Nat.mod_lt _ (by decide)
def rotr (x n : Nat) : Nat := or32 (shr32 x n) (shl32 x (32 - n))
def be4 (a b c d : Nat) : Nat := or32 (or32 (or32 (shl32 a 24) (shl32 b 16)) (shl32 c 8)) d
def sig0 (x : Nat) : Nat := xor32 (xor32 (rotr x 7) (rotr x 18)) (shr32 x 3)
def sig1 (x : Nat) : Nat := xor32 (xor32 (rotr x 17) (rotr x 19)) (shr32 x 10)
def nextW (b : Nat → Nat) (w : List Nat) (t : Nat) : Nat :=
  if t < 16 then be4 (b (4 * t)) (b (4 * t + 1)) (b (4 * t + 2)) (b (4 * t + 3))
  else add32 (add32 (add32 ((w[t - 16]?).getD 0) (sig0 ((w[t - 15]?).getD 0))) ((w[t - 7]?).getD 0)) (sig1 ((w[t - 2]?).getD 0))
def wordsM (b : Nat → Nat) : Nat → List Nat
  | 0 => []
  | t + 1 => wordsM b t ++ [nextW b (wordsM b t) t]
theorem wordsM_len (b : Nat → Nat) : ∀ t, (wordsM b t).length = t
  | 0 => rfl
  | t + 1 => by rw [wordsM, List.length_append, wordsM_len b t]; rfl
theorem be4_lt (a b c d : Nat) : be4 a b c d < 4294967296 := or32_lt _ _
theorem nextW_lt (b : Nat → Nat) (w : List Nat) (t : Nat) : nextW b w t < 4294967296 := by
  unfold nextW
  split
  · exact be4_lt _ _ _ _
  · exact add32_lt _ _
theorem wordsM_lt (b : Nat → Nat) : ∀ t, ∀ x ∈ wordsM b t, x < 4294967296
  | 0, x, h => by cases h
  | t + 1, x, h => by
    rw [wordsM, List.mem_append] at h
    rcases h with h | h
    · exact wordsM_lt b t x h
    · simp at h; subst h; exact nextW_lt _ _ _
structure St where
  a : Nat
  b : Nat
  c : Nat
  d : Nat
  e : Nat
  f : Nat
  g : Nat
  h : Nat
def St.Ok (s : St) : Prop := s.a < 4294967296 ∧ s.b < 4294967296 ∧ s.c < 4294967296 ∧ s.d < 4294967296 ∧ s.e < 4294967296 ∧ s.f < 4294967296 ∧ s.g < 4294967296 ∧ s.h < 4294967296
def bigA (s : St) : Nat := add32 (xor32 (xor32 (rotr s.a 2) (rotr s.a 13)) (rotr s.a 22)) (xor32 (xor32 (and32 s.a s.b) (and32 s.a s.c)) (and32 s.b s.c))
def bigE (s : St) (k w : Nat) : Nat := add32 (add32 (add32 (add32 s.h (xor32 (xor32 (rotr s.e 6) (rotr s.e 11)) (rotr s.e 25))) (xor32 (and32 s.e s.f) (and32 (xor32 s.e 4294967295) s.g))) k) w
def roundM (s : St) (k w : Nat) : St := ⟨add32 (bigE s k w) (bigA s), s.a, s.b, s.c, add32 s.d (bigE s k w), s.e, s.f, s.g⟩
def kT : List Nat := [0x428a2f98, 0x71374491, 0xb5c0fbcf, 0xe9b5dba5, 0x3956c25b, 0x59f111f1, 0x923f82a4, 0xab1c5ed5,
  0xd807aa98, 0x12835b01, 0x243185be, 0x550c7dc3, 0x72be5d74, 0x80deb1fe, 0x9bdc06a7, 0xc19bf174,
  0xe49b69c1, 0xefbe4786, 0x0fc19dc6, 0x240ca1cc, 0x2de92c6f, 0x4a7484aa, 0x5cb0a9dc, 0x76f988da,
  0x983e5152, 0xa831c66d, 0xb00327c8, 0xbf597fc7, 0xc6e00bf3, 0xd5a79147, 0x06ca6351, 0x14292967,
  0x27b70a85, 0x2e1b2138, 0x4d2c6dfc, 0x53380d13, 0x650a7354, 0x766a0abb, 0x81c2c92e, 0x92722c85,
  0xa2bfe8a1, 0xa81a664b, 0xc24b8b70, 0xc76c51a3, 0xd192e819, 0xd6990624, 0xf40e3585, 0x106aa070,
  0x19a4c116, 0x1e376c08, 0x2748774c, 0x34b0bcb5, 0x391c0cb3, 0x4ed8aa4a, 0x5b9cca4f, 0x682e6ff3,
  0x748f82ee, 0x78a5636f, 0x84c87814, 0x8cc70208, 0x90befffa, 0xa4506ceb, 0xbef9a3f7, 0xc67178f2]
def kM (t : Nat) : Nat := (kT[t]?).getD 0
def roundsM (w : List Nat) (s : St) : Nat → St
  | 0 => s
  | t + 1 => roundM (roundsM w s t) (kM t) ((w[t]?).getD 0)
def St.plus (s v : St) : St := ⟨add32 s.a v.a, add32 s.b v.b, add32 s.c v.c, add32 s.d v.d, add32 s.e v.e, add32 s.f v.f, add32 s.g v.g, add32 s.h v.h⟩
def startM : St := ⟨0x6a09e667, 0xbb67ae85, 0x3c6ef372, 0xa54ff53a, 0x510e527f, 0x9b05688c, 0x1f83d9ab, 0x5be0cd19⟩
def blockM (s : St) (b : Nat → Nat) : St := s.plus (roundsM (wordsM b 64) s 64)
theorem startM_ok : startM.Ok := by unfold St.Ok startM; decide
theorem roundM_ok {s : St} (h : s.Ok) (k w : Nat) : (roundM s k w).Ok := ⟨add32_lt _ _, h.1, h.2.1, h.2.2.1, add32_lt _ _, h.2.2.2.2.1, h.2.2.2.2.2.1, h.2.2.2.2.2.2.1⟩
theorem roundsM_ok {s : St} (h : s.Ok) (w : List Nat) : ∀ t, (roundsM w s t).Ok
  | 0 => h
  | t + 1 => roundM_ok (roundsM_ok h w t) _ _
theorem plus_ok (s v : St) : (s.plus v).Ok := ⟨add32_lt _ _, add32_lt _ _, add32_lt _ _, add32_lt _ _, add32_lt _ _, add32_lt _ _, add32_lt _ _, add32_lt _ _⟩
end Go.Sha
