/- package field: product, degree, reduce, inverse. -/
import Derived.Test.YtnilepaicnnbhaaDoorJa
namespace Go.GF
open Go Go.RowKit
def shlN (a s : Nat) : Nat := a <<< s
def shrN (a s : Nat) : Nat := a >>> s
def xorN (a b : Nat) : Nat := a ^^^ b
def andN (a : Nat) : Nat := a % 2
def nzN (a : Nat) : Bool := decide (a ≠ 0)
theorem wrap_nat {n : Nat} (h : n < 4611686018427387904) : IntKind.i64.wrap (n : Int) = (n : Int) := IntWalk.i64_in _ (by omega)
theorem b_shl (t : TypeId) (yk : IntKind) (a s : Nat) (h : shlN a s < 4611686018427387904) (hs : s ≤ 62) : binOp .shl t (.int .i64 (a : Int)) (.int yk (s : Int)) = pure (.int .i64 ((shlN a s : Nat) : Int)) := by
  rw [binOp_shl, shift_shl_any _ _ _ _ (by omega), show min (s : Int).toNat IntKind.i64.bits = s by show min (s : Int).toNat 64 = s; omega]
  rw [show ((a : Int) * 2 ^ s) = ((shlN a s : Nat) : Int) by unfold shlN; rw [Nat.shiftLeft_eq]; simp, wrap_nat h]
theorem b_shl1 (t : TypeId) (yk : IntKind) (a : Nat) (h : shlN a 1 < 4611686018427387904) : binOp .shl t (.int .i64 (a : Int)) (.int yk 1) = pure (.int .i64 ((shlN a 1 : Nat) : Int)) := b_shl t yk a 1 h (by omega)
theorem b_shr (t : TypeId) (yk : IntKind) (a s : Nat) (hs : s ≤ 62) : binOp .shr t (.int .i64 (a : Int)) (.int yk (s : Int)) = pure (.int .i64 ((shrN a s : Nat) : Int)) := by
  rw [binOp_shr, shift_shr_any _ _ _ _ (by omega), show min (s : Int).toNat IntKind.i64.bits = s by show min (s : Int).toNat 64 = s; omega]
  rw [show ((a : Int) / 2 ^ s) = ((shrN a s : Nat) : Int) by unfold shrN; rw [Nat.shiftRight_eq_div_pow]; simp]
theorem b_shr1 (t : TypeId) (yk : IntKind) (a : Nat) : binOp .shr t (.int .i64 (a : Int)) (.int yk 1) = pure (.int .i64 ((shrN a 1 : Nat) : Int)) := b_shr t yk a 1 (by omega)
theorem b_xor (t : TypeId) (a b : Nat) (ha : a < 4611686018427387904) (hb : b < 4611686018427387904) : binOp .xor t (.int .i64 (a : Int)) (.int .i64 (b : Int)) = pure (.int .i64 ((xorN a b : Nat) : Int)) := by
  rw [binOp_xor]
  show (pure (Value.int .i64 (bits .xor .i64 (a : Int) (b : Int))) : Sem Value) = _
  rw [i64_xor_nat' a b ha hb]; rfl
theorem b_and1 (t : TypeId) (a : Nat) (ha : a < 4611686018427387904) : binOp .and t (.int .i64 (a : Int)) (.int .i64 1) = pure (.int .i64 ((andN a : Nat) : Int)) := by
  rw [binOp_and]
  show (pure (Value.int .i64 (bits .and .i64 (a : Int) 1)) : Sem Value) = _
  rw [i64_and1 a ha]; rfl
theorem b_nz (t : TypeId) (a : Nat) : binOp .neq t (.int .i64 (a : Int)) (.int .i64 0) = pure (.bool (nzN a)) := by
  rw [binOp_neq]
  unfold nzN
  congr 2
  by_cases h : a = 0
  · subst h; rfl
  · rw [decide_eq_true h]; simpa using h
theorem len_half {a : Nat} (h : a ≠ 0) : len (a / 2) + 1 = len a := by
  obtain ⟨k, hk, h1, h2⟩ := len_bound h
  rw [hk]
  cases k with
  | zero =>
    have : a = 1 := by simp at h1 h2; omega
    subst this; rfl
  | succ k =>
    rw [Nat.pow_succ] at h1 h2
    have := len_eq (n := a / 2) (k := k) (by omega) (by omega)
    omega
theorem shr_step (b k : Nat) : b >>> (k + 1) = (b >>> k) / 2 := Nat.shiftRight_succ b k
theorem modP_lt {m : Nat} (hm : isF m) : modP m < 131072 := by rcases hm with rfl | rfl <;> decide
theorem modI_nat {m : Nat} (hm : isF m) : modI (m : Int) = ((modP m : Nat) : Int) := by rcases hm with rfl | rfl <;> rfl
theorem lt62 {a k : Nat} (h : a < 2 ^ k) (hk : k ≤ 62) : a < 4611686018427387904 := Nat.lt_of_lt_of_le h (Nat.pow_le_pow_right (n := 2) (by omega) hk)
theorem shl_lt {a k s : Nat} (h : a < 2 ^ k) : shlN a s < 2 ^ (k + s) := by
  unfold shlN; rw [Nat.shiftLeft_eq, Nat.pow_add]; exact Nat.mul_lt_mul_of_pos_right h (Nat.pow_pos (by omega))
end Go.GF
namespace Go.Proofs.YtnilepaicnnbhaaDoor
open Go.RowKit Go.GF
attribute [local go_sem high] b_shl b_shl1 b_shr b_shr1 b_xor b_and1 b_nz

structure PrSt (w : World) (m a b : Nat) (o i : Value) (wr : World) : Prop where
  st : ∃ n : Nat, n ≤ m ∧ o = .int .i64 ((evN (xt m (modP m)) a n (b >>> (m - n)) : Nat) : Int) ∧ ((∃ ii : Nat, ii + 1 + n = m ∧ i = .int .i64 (ii : Int)) ∨ (n = m ∧ i = .int .i64 (-1))) ∧ Below w.heap.size w wr
set_option maxRecDepth 20000 in
set_option maxHeartbeats 2000000 in
theorem product_any (m : Nat) (hm : isF m) (a b : Nat) (ha : a < 2 ^ m) (hb : b < 2 ^ m) (w : World) (hT : TabF w) :
    Calls Tryd.prog 103 #[.int .i64 (m : Int), .int .i64 (a : Int), .int .i64 (b : Int)] w fun e w' => e = .returned (.int .i64 ((mulC m a b : Nat) : Int)) ∧ Below w.heap.size w w' := by
  have HMD := Lib.hid (modulus_any (m : Int) w hT)
  rw [modI_nat hm] at HMD
  have hF := fld hm
  have hPl := modP_lt hm
  have hm16 : m ≤ 16 := by rcases hm with rfl | rfl <;> omega
  have hm1 : 1 ≤ m := by rcases hm with rfl | rfl <;> omega
  have ho : ∀ n p, evN (xt m (modP m)) a n p < 2 ^ m := by
    intro n
    induction n with
    | zero => intro p; exact Nat.pow_pos (by omega)
    | succ n ih =>
      intro p
      unfold evN
      refine Nat.xor_lt_two_pow (xt_lt hF (ih _)) ?_
      unfold bitM; split
      · exact ha
      · exact Nat.pow_pos (by omega)
  have HO := Lib.hid ho
  have hmm : ((m : Int) - 1) = ((m - 1 : Nat) : Int) := by omega
  have HX := Lib.hid (And.intro hF (And.intro ha hb))
  have HMC := Lib.hid (show evN (xt m (modP m)) a m (b >>> (m - m)) = mulC m a b by rw [Nat.sub_self]; rfl)
  obtain ⟨P, hP⟩ : ∃ P, modP m = P := ⟨_, rfl⟩
  rw [hP] at HX HO hPl HMD
  have HP := Lib.hid hP
  have hP62 : P < 4611686018427387904 := by omega
  have ha62 := lt62 ha (by omega)
  have hb62 := lt62 hb (by omega)
  have hm62 : m ≤ 62 := by omega
  clear ho hF hT ha hb hP
  go_enter Tryd.func103, Tryd.ntmps103
  go_wp2_with (go_at_call 92; refine HMD.out.mono ?_; rintro e w1 ⟨rfl, h1⟩)
  have HB1 := Lib.hid h1
  clear h1 HMD
  go_loopw [8, 9] (fun o i wr => PrSt w m a b o i wr) (fun _ i _ => (intOf i + 1).toNat)
  case atStart => exact ⟨⟨0, Nat.zero_le _, rfl, .inl ⟨m - 1, by omega, rfl⟩, HB1.out⟩⟩
  case round =>
    clear HB1
    obtain ⟨n, hn, rfl, hi, hbw⟩ := hrel.st
    clear hrel
    have HB := Lib.hid hbw
    clear hbw
    rcases hi with ⟨ii, hii, rfl⟩ | ⟨hnm, rfl⟩
    · have hlo := HO.out n (b >>> (m - n))
      have hid : decide ((0 : Int) ≤ (ii : Int)) = true := decide_eq_true (by omega)
      have hii62 : ii ≤ 62 := by omega
      have hwr : IntKind.i64.wrap ((ii : Int) - 1) = (ii : Int) - 1 := IntWalk.i64_in _ (by omega)
      have hstep : evN (xt m P) a (n + 1) (b >>> ii) = xt m P (evN (xt m P) a n (b >>> (m - n))) ^^^ bitM (b >>> ii) a := by
        show xt m P (evN (xt m P) a n ((b >>> ii) / 2)) ^^^ bitM (b >>> ii) a = _
        rw [← shr_step, show ii + 1 = m - n by omega]
      rw [HP.out]
      generalize evN (xt m P) a n (b >>> (m - n)) = o at *
      have hx := xt_if (P := P) hlo
      have h2o : shlN o 1 = 2 * o := by unfold shlN; rw [Nat.shiftLeft_eq]; omega
      have ho1 : shlN o 1 < 2 ^ (m + 1) := shl_lt hlo
      have ho62 := lt62 ho1 (by omega)
      have hx62 : xorN (shlN o 1) P < 4611686018427387904 := lt62 (k := 62) (Nat.xor_lt_two_pow (Nat.lt_of_lt_of_le ho62 (by decide)) (Nat.lt_of_lt_of_le hP62 (by decide))) (by omega)
      have hsb : shrN b ii < 4611686018427387904 := by have : shrN b ii ≤ b := by unfold shrN; rw [Nat.shiftRight_eq_div_pow]; exact Nat.div_le_self _ _
                                                       omega
      have hq1 : (2 ^ m ≤ 2 * o) ↔ nzN (shrN (shlN o 1) m) = true := by
        unfold nzN shrN
        rw [h2o, Nat.shiftRight_eq_div_pow, decide_eq_true_iff, Nat.ne_zero_iff_zero_lt, Nat.div_pos_iff]
        have : 0 < 2 ^ m := Nat.pow_pos (by omega)
        omega
      have hq2 : ((b >>> ii) % 2 = 1) ↔ nzN (andN (shrN b ii)) = true := by
        unfold nzN shrN andN
        rw [decide_eq_true_iff]; omega
      have hb2 : bitM (b >>> ii) a = if nzN (andN (shrN b ii)) = true then a else 0 := by unfold bitM; simp only [hq2]
      have hx2 : xt m P o = if nzN (shrN (shlN o 1) m) = true then xorN (shlN o 1) P else shlN o 1 := by
        rw [hx]; simp only [hq1]; rw [← h2o]; rfl
      rw [hb2, hx2] at hstep
      have HS := Lib.hid hstep
      have HI := Lib.hid (And.intro hii hn)
      clear hstep hx hb2 hx2 hq1 hq2 h2o ho1 hlo hii hn hm1 hmm
      cases z1 : nzN (shrN (shlN o 1) m) with
      | false =>
        cases z2 : nzN (andN (shrN b ii)) with
        | false =>
          rw [z1, z2] at HS
          go_wp2
          go_roundw
          case rel =>
            obtain ⟨hii, hn⟩ := HI.out
            refine ⟨⟨n + 1, by omega, ?_, ?_, HB.out⟩⟩
            · rw [HP.out, show m - (n + 1) = ii by omega, HS.out]; simp
            · rcases Nat.eq_zero_or_pos ii with h | h
              · subst h; exact .inr ⟨by omega, rfl⟩
              · refine .inl ⟨ii - 1, by omega, ?_⟩
                congr 1; omega
          case measure => simp only [intOf]; omega
        | true =>
          rw [z1, z2] at HS
          go_wp2
          go_roundw
          case rel =>
            obtain ⟨hii, hn⟩ := HI.out
            refine ⟨⟨n + 1, by omega, ?_, ?_, HB.out⟩⟩
            · rw [HP.out, show m - (n + 1) = ii by omega, HS.out]; rfl
            · rcases Nat.eq_zero_or_pos ii with h | h
              · subst h; exact .inr ⟨by omega, rfl⟩
              · refine .inl ⟨ii - 1, by omega, ?_⟩
                congr 1; omega
          case measure => simp only [intOf]; omega
      | true =>
        cases z2 : nzN (andN (shrN b ii)) with
        | false =>
          rw [z1, z2] at HS
          go_wp2
          go_roundw
          case rel =>
            obtain ⟨hii, hn⟩ := HI.out
            refine ⟨⟨n + 1, by omega, ?_, ?_, HB.out⟩⟩
            · rw [HP.out, show m - (n + 1) = ii by omega, HS.out]; simp
            · rcases Nat.eq_zero_or_pos ii with h | h
              · subst h; exact .inr ⟨by omega, rfl⟩
              · refine .inl ⟨ii - 1, by omega, ?_⟩
                congr 1; omega
          case measure => simp only [intOf]; omega
        | true =>
          rw [z1, z2] at HS
          go_wp2
          go_roundw
          case rel =>
            obtain ⟨hii, hn⟩ := HI.out
            refine ⟨⟨n + 1, by omega, ?_, ?_, HB.out⟩⟩
            · rw [HP.out, show m - (n + 1) = ii by omega, HS.out]; rfl
            · rcases Nat.eq_zero_or_pos ii with h | h
              · subst h; exact .inr ⟨by omega, rfl⟩
              · refine .inl ⟨ii - 1, by omega, ?_⟩
                congr 1; omega
          case measure => simp only [intOf]; omega
    · subst hnm
      go_wp2
      go_ret
      exact ⟨by rw [HMC.out]; rfl, HB.out⟩
end Go.Proofs.YtnilepaicnnbhaaDoor
