/- sector: sizeOf, put, get, Valid, validGen, Newer, and strings.Clone. -/
import Derived.Test.YtbegomjbakidmaaCr
namespace Go.Proofs.Ytbegomjbakidmaa
open Go.RowKit Go.Sl Go.ChangeMaps

abbrev TByte : TypeId := 5
/-- A slice of bytes in a block of its own. -/
def ownB (v : Value) (l : List UInt8) : HProp := ownAt TByte 1 v l.length (secL l)
def leB (n k : Nat) : UInt8 := UInt8.ofNat (n / 256 ^ k)
def leL (n m : Nat) : List UInt8 := (List.range m).map (leB n)
theorem leL_length (n m : Nat) : (leL n m).length = m := by simp [leL]
theorem leL_succ (n m : Nat) : leL n (m + 1) = leL n m ++ [leB n m] := by simp [leL, List.range_succ]
theorem leB_val (n k : Nat) : (((n / 256 ^ k : Nat) : Int) % 256) = ((leB n k).toNat : Int) := by
  unfold leB
  rw [UInt8.toNat_ofNat']
  omega
theorem ownB_bytes {w : World} {v : Value} {l : List UInt8} {X : HProp} (h : Sat w (ownB v l * X)) : BytesAt w v l := by
  obtain ⟨ao, cap, rfl⟩ := ownAt_slice h
  refine ⟨ao, cap, rfl, fun hne => ?_⟩
  obtain ⟨g, cap', hv, hc⟩ := ownAt_cells h (by cases l; exact absurd rfl hne; simp)
  simp only [Value.slice.injEq, true_and] at hv
  obtain ⟨rfl, rfl⟩ := hv
  refine ⟨g, 0, rfl, fun j x hj => ?_⟩
  rw [Nat.zero_add]
  exact hc j _ (by simp [secL, hj])
theorem ownB_nil {w : World} {X : HProp} : Sat w (ownB (.slice none 0 0) [] * X) ↔ Sat w X := ownAt_nil
theorem infoB3 : (Try.prog.info? TByte).map (fun i => (i.zero, i.size, i.bytes)) = some (some (.int .u8 0), 1, 1) := by kernel_rfl

structure SzSt (f : Nat → Int) (m : Nat) (w0 : World) (n x : Value) (wr : World) : Prop where
  st : wr = w0 ∧ ∃ k : Nat, k ≤ m ∧ n = .int .i64 k ∧ x = .int .u64 (f k)
def sz4 (k : Nat) : Int := match k with | 0 => 4294967295 | 1 => 16777215 | 2 => 65535 | 3 => 255 | _ => 0
def sz2 (k : Nat) : Int := match k with | 0 => 65535 | 1 => 255 | _ => 0

set_option maxHeartbeats 400000 in
theorem sizeOf4 (w : World) : Calls Try.prog 74 #[] w fun e w' => e = .returned (.int .i64 4) ∧ w = w' := by
  go_enter Try.func74, Try.ntmps74
  go_wp2
  go_loopw [1, 2] (fun n x wr => SzSt sz4 4 w n x wr) (fun n _ _ => 4 - (intOf n).toNat)
  case atStart => exact ⟨rfl, 0, by omega, rfl, rfl⟩
  case round =>
    obtain ⟨rfl, k, hk, rfl, rfl⟩ := hrel.st
    clear hrel
    rcases (show k = 0 ∨ k = 1 ∨ k = 2 ∨ k = 3 ∨ k = 4 by omega) with rfl | rfl | rfl | rfl | rfl
    · unfold sz4
      go_wp2
      go_roundw
      case rel => exact ⟨rfl, 1, by omega, rfl, rfl⟩
      case measure => simp [intOf]
    · unfold sz4
      go_wp2
      go_roundw
      case rel => exact ⟨rfl, 2, by omega, rfl, rfl⟩
      case measure => simp [intOf]
    · unfold sz4
      go_wp2
      go_roundw
      case rel => exact ⟨rfl, 3, by omega, rfl, rfl⟩
      case measure => simp [intOf]
    · unfold sz4
      go_wp2
      go_roundw
      case rel => exact ⟨rfl, 4, by omega, rfl, rfl⟩
      case measure => simp [intOf]
    · unfold sz4
      go_wp2
      go_ret
      exact ⟨rfl, rfl⟩
set_option maxHeartbeats 400000 in
theorem sizeOf2 (w : World) : Calls Try.prog 73 #[] w fun e w' => e = .returned (.int .i64 2) ∧ w = w' := by
  go_enter Try.func73, Try.ntmps73
  go_wp2
  go_loopw [1, 2] (fun n x wr => SzSt sz2 2 w n x wr) (fun n _ _ => 2 - (intOf n).toNat)
  case atStart => exact ⟨rfl, 0, by omega, rfl, rfl⟩
  case round =>
    obtain ⟨rfl, k, hk, rfl, rfl⟩ := hrel.st
    clear hrel
    rcases (show k = 0 ∨ k = 1 ∨ k = 2 by omega) with rfl | rfl | rfl
    · unfold sz2
      go_wp2
      go_roundw
      case rel => exact ⟨rfl, 1, by omega, rfl, rfl⟩
      case measure => simp [intOf]
    · unfold sz2
      go_wp2
      go_roundw
      case rel => exact ⟨rfl, 2, by omega, rfl, rfl⟩
      case measure => simp [intOf]
    · unfold sz2
      go_wp2
      go_ret
      exact ⟨rfl, rfl⟩

structure PutSt (w : World) (K : IntKind) (l : List UInt8) (n m : Nat) (F : HProp) (b x i : Value) (wr : World) : Prop where
  st : ∃ k : Nat, k ≤ m ∧ i = .int .i64 k ∧ x = .int K ((n / 256 ^ k : Nat) : Int) ∧ Same w wr ∧ Sat wr (ownB b (l ++ leL n k) * F)

set_option maxHeartbeats 1000000 in
theorem put4_any (v : Value) (l : List UInt8) (n : Nat) (hn : n < 4294967296) (hl : l.length ≤ 1000000) (F : HProp) (w : World) (hS : Sat w (ownB v l * F)) :
    Calls Try.prog 57 #[v, .int .u32 (n : Int)] w fun e w' => ∃ v', e = .returned v' ∧ Hid (Same w w' ∧ Sat w' (ownB v' (l ++ leL n 4) * F)) := by
  obtain ⟨ti, hti, hz0, hts, hz2⟩ := info_parts infoB3
  have HS := Lib.hid hS
  clear hS
  go_enter Try.func57, Try.ntmps57
  go_wp2_with (go_at_call 74; refine (sizeOf4 _).mono ?_; rintro e w' ⟨rfl, rfl⟩)
  go_loopw [0, 1, 6] (fun b x i wr => PutSt w .u32 l n 4 F b x i wr) (fun _ _ i _ => 4 - (intOf i).toNat)
  case atStart => exact ⟨⟨0, by omega, rfl, by simp, Same.refl w, by simpa [leL] using HS.out⟩⟩
  case round =>
    obtain ⟨k, hk, rfl, rfl, hsm, hs⟩ := hrel.st
    clear hrel HS
    have H1 := Lib.hid (And.intro hsm hs)
    obtain ⟨ao, cap, rfl⟩ := ownAt_slice hs
    clear hsm hs
    by_cases hlt : k < 4
    · have hltd : decide ((k : Int) < 4) = true := decide_eq_true (by omega)
      have hk1 : (k : Int) ≤ 4 := by omega
      have hml : n / 256 ^ k < 4294967296 := Nat.lt_of_le_of_lt (Nat.div_le_self _ _) hn
      have hlb := leB_val n k
      have hsucc : n / 256 ^ k / 256 = n / 256 ^ (k + 1) := by rw [Nat.div_div_eq_div_mul, Nat.pow_succ]
      have HLB := Lib.hid hlb
      have HSU := Lib.hid hsucc
      have HLEN := Lib.hid (show (l ++ leL n k).length ≤ 1000004 by rw [List.length_append, leL_length]; omega)
      clear hlb hsucc hl
      generalize n / 256 ^ k = m at hml HLB HSU ⊢
      have hm0 : (0 : Int) ≤ (m : Int) := by omega
      have hm1 : (m : Int) < 4294967296 := by omega
      go_wp2_with (at_builtin; rw [HLB.out]; refine wpList_append_ownAt (F := F) rfl _ _ 95 TByte rfl ti _ Try.underlying95 hti hz0 hts hz2 rfl (H1.out.2.allocKeep _) [.int .u8 ((leB n k).toNat : Int)] rfl rfl rfl ?_ (by simp [Value.oneCell']) (by have := HLEN.out; unfold maxLen; omega) (by have := HLEN.out; omega) ?_)
      · intro j u hu
        match j, hu with
        | 0, hu => rw [Addr.add_mid, cells_at (heap_alloc_new _ _)]; simpa using hu
      intro v' w2 h2
      replace H1 := Lib.hid (And.intro ((H1.out.1.alloc _).trans h2.out.1) h2.out.2)
      clear h2
      go_wp2
      refine ⟨⟨k + 1, by omega, rfl, by rw [← HSU.out]; congr 1, H1.out.1, ?_⟩, by simp only [intOf]; omega⟩
      have e : secL (l ++ leL n (k + 1)) = secL (l ++ leL n k) ++ [.int .u8 ((leB n k).toNat : Int)] := by simp [secL, leL_succ, byteV]
      unfold ownB
      rw [e, List.length_append, leL_length]
      have := H1.out.2
      rw [leL_length, Nat.add_assoc] at this
      exact this
    · obtain rfl : k = 4 := by omega
      have hltd : decide (((4 : Nat) : Int) < 4) = false := by decide
      go_wp2
      go_ret
      exact ⟨_, rfl, H1.out⟩

set_option maxHeartbeats 1000000 in
theorem put2_any (v : Value) (l : List UInt8) (n : Nat) (hn : n < 65536) (hl : l.length ≤ 1000000) (F : HProp) (w : World) (hS : Sat w (ownB v l * F)) :
    Calls Try.prog 56 #[v, .int .u16 (n : Int)] w fun e w' => ∃ v', e = .returned v' ∧ Hid (Same w w' ∧ Sat w' (ownB v' (l ++ leL n 2) * F)) := by
  obtain ⟨ti, hti, hz0, hts, hz2⟩ := info_parts infoB3
  have HS := Lib.hid hS
  clear hS
  go_enter Try.func56, Try.ntmps56
  go_wp2_with (go_at_call 73; refine (sizeOf2 _).mono ?_; rintro e w' ⟨rfl, rfl⟩)
  go_loopw [0, 1, 6] (fun b x i wr => PutSt w .u16 l n 2 F b x i wr) (fun _ _ i _ => 2 - (intOf i).toNat)
  case atStart => exact ⟨⟨0, by omega, rfl, by simp, Same.refl w, by simpa [leL] using HS.out⟩⟩
  case round =>
    obtain ⟨k, hk, rfl, rfl, hsm, hs⟩ := hrel.st
    clear hrel HS
    have H1 := Lib.hid (And.intro hsm hs)
    obtain ⟨ao, cap, rfl⟩ := ownAt_slice hs
    clear hsm hs
    by_cases hlt : k < 2
    · have hltd : decide ((k : Int) < 2) = true := decide_eq_true (by omega)
      have hk1 : (k : Int) ≤ 2 := by omega
      have hml : n / 256 ^ k < 65536 := Nat.lt_of_le_of_lt (Nat.div_le_self _ _) hn
      have hlb := leB_val n k
      have hsucc : n / 256 ^ k / 256 = n / 256 ^ (k + 1) := by rw [Nat.div_div_eq_div_mul, Nat.pow_succ]
      have HLB := Lib.hid hlb
      have HSU := Lib.hid hsucc
      have HLEN := Lib.hid (show (l ++ leL n k).length ≤ 1000004 by rw [List.length_append, leL_length]; omega)
      clear hlb hsucc hl
      generalize n / 256 ^ k = m at hml HLB HSU ⊢
      have hm0 : (0 : Int) ≤ (m : Int) := by omega
      have hm1 : (m : Int) < 65536 := by omega
      go_wp2_with (at_builtin; rw [HLB.out]; refine wpList_append_ownAt (F := F) rfl _ _ 95 TByte rfl ti _ Try.underlying95 hti hz0 hts hz2 rfl (H1.out.2.allocKeep _) [.int .u8 ((leB n k).toNat : Int)] rfl rfl rfl ?_ (by simp [Value.oneCell']) (by have := HLEN.out; unfold maxLen; omega) (by have := HLEN.out; omega) ?_)
      · intro j u hu
        match j, hu with
        | 0, hu => rw [Addr.add_mid, cells_at (heap_alloc_new _ _)]; simpa using hu
      intro v' w2 h2
      replace H1 := Lib.hid (And.intro ((H1.out.1.alloc _).trans h2.out.1) h2.out.2)
      clear h2
      go_wp2
      refine ⟨⟨k + 1, by omega, rfl, by rw [← HSU.out]; congr 1, H1.out.1, ?_⟩, by simp only [intOf]; omega⟩
      have e : secL (l ++ leL n (k + 1)) = secL (l ++ leL n k) ++ [.int .u8 ((leB n k).toNat : Int)] := by simp [secL, leL_succ, byteV]
      unfold ownB
      rw [e, List.length_append, leL_length]
      have := H1.out.2
      rw [leL_length, Nat.add_assoc] at this
      exact this
    · obtain rfl : k = 2 := by omega
      have hltd : decide (((2 : Nat) : Int) < 2) = false := by decide
      go_wp2
      go_ret
      exact ⟨_, rfl, H1.out⟩


theorem i64_or_nat (a b : Nat) (ha : a < 4611686018427387904) (hb : b < 4611686018427387904) : bits .or .i64 (a : Int) (b : Int) = ((a ||| b : Nat) : Int) := by
  have hx : a ||| b < 2 ^ 62 := Nat.or_lt_two_pow (by omega) (by omega)
  have h1 : (BitVec.ofInt 64 (a : Int)).toNat = a := by
    rw [BitVec.ofInt_natCast, BitVec.toNat_ofNat]; exact Nat.mod_eq_of_lt (by omega)
  have h2 : (BitVec.ofInt 64 (b : Int)).toNat = b := by
    rw [BitVec.ofInt_natCast, BitVec.toNat_ofNat]; exact Nat.mod_eq_of_lt (by omega)
  show IntKind.i64.wrap ((BitVec.ofInt 64 (a : Int) ||| BitVec.ofInt 64 (b : Int)).toNat : Int) = _
  rw [BitVec.toNat_or, h1, h2]
  exact IntWalk.i64_in _ (by omega)
/-- A number, the least significant byte first. -/
def getM : List UInt8 → Nat
  | [] => 0
  | b :: r => b.toNat + 256 * getM r
theorem getM_lt : ∀ l : List UInt8, getM l < 256 ^ l.length
  | [] => by simp [getM]
  | b :: r => by
    have h1 := getM_lt r
    have h2 := b.toNat_lt
    show b.toNat + 256 * getM r < 256 ^ (r.length + 1)
    rw [Nat.pow_succ]
    omega
theorem getM_snoc : ∀ (l : List UInt8) (b : UInt8), getM (l ++ [b]) = getM l + b.toNat * 256 ^ l.length
  | [], b => by simp [getM]
  | c :: r, b => by
    show c.toNat + 256 * getM (r ++ [b]) = c.toNat + 256 * getM r + b.toNat * 256 ^ (r.length + 1)
    rw [getM_snoc r b, Nat.pow_succ, Nat.mul_add, Nat.mul_comm (256 ^ r.length) 256, Nat.mul_left_comm, Nat.add_assoc]
theorem get_step {g x k : Nat} (hg : g < 256 ^ k) (hx : x < 256) (hk : k < 4) : bits .or .i64 (g : Int) (wrap64 (wrap64 (x : Int) * 2 ^ (8 * k))) = ((g + x * 256 ^ k : Nat) : Int) := by
  have h1 : x * 256 ^ k < 4611686018427387904 := by rcases (show k = 0 ∨ k = 1 ∨ k = 2 ∨ k = 3 by omega) with rfl | rfl | rfl | rfl <;> omega
  have h2 : g < 4611686018427387904 := by rcases (show k = 0 ∨ k = 1 ∨ k = 2 ∨ k = 3 by omega) with rfl | rfl | rfl | rfl <;> omega
  have h3 : wrap64 (wrap64 (x : Int) * 2 ^ (8 * k)) = ((x * 256 ^ k : Nat) : Int) := by
    unfold wrap64
    rcases (show k = 0 ∨ k = 1 ∨ k = 2 ∨ k = 3 by omega) with rfl | rfl | rfl | rfl <;> (try simp only [Nat.mul_zero, Int.pow_zero, Nat.pow_zero, Nat.mul_one]) <;> omega
  rw [h3, i64_or_nat _ _ h2 h1]
  congr 1
  have h4 : x * 256 ^ k = x <<< (8 * k) := by rw [Nat.shiftLeft_eq, show (256 : Nat) = 2 ^ 8 from rfl, ← Nat.pow_mul]
  rw [h4, Nat.or_comm, ← Nat.shiftLeft_add_eq_or_of_lt (by rw [Nat.pow_mul]; exact hg), Nat.add_comm]
structure GetSt (w : World) (l : List UInt8) (n i : Value) (wr : World) : Prop where
  st : wr = w ∧ ∃ k : Nat, k ≤ l.length ∧ i = .int .i64 k ∧ n = .int .i64 (getM (l.take k) : Int)

set_option maxHeartbeats 1000000 in
theorem get_any (l : List UInt8) (hl : l.length ≤ 4) (w : World) :
    Calls Try.prog 79 #[.string (strB l)] w fun e w' => e = .returned (.int .i64 (getM l : Int)) ∧ w = w' := by
  have hsz : (strB l).size = l.length := strB_size l
  have HL := Lib.hid (show ∀ s, s = strB l → ∀ (k : Nat) (x : UInt8), l[k]? = some x → ∀ h : k < s.size, s[k]'h = x from fun s hs k x hk h => by
    subst hs
    exact (List.getElem?_eq_some_iff.1 hk).2)
  obtain ⟨s, hs⟩ : ∃ s, strB l = s := ⟨_, rfl⟩
  replace HL := Lib.hid (HL.out s hs.symm)
  rw [hs] at hsz ⊢
  have HSZ := Lib.hid hsz
  clear hs
  go_enter Try.func79, Try.ntmps79
  go_wp2
  go_loopw [3, 4, 7] (fun n _ i wr => GetSt w l n i wr) (fun _ _ i _ => 4 - (intOf i).toNat)
  case atStart => exact ⟨rfl, 0, by omega, rfl, rfl⟩
  case round =>
    obtain ⟨rfl, k, hk, rfl, rfl⟩ := hrel.st
    clear hrel
    by_cases hlt : k < l.length
    · have hks : k < s.size := by omega
      have hgl := getM_lt (l.take k)
      rw [List.length_take, Nat.min_eq_left (by omega)] at hgl
      have hsn : getM (l.take (k + 1)) = getM (l.take k) + (l[k]).toNat * 256 ^ k := by
        rw [List.take_succ_eq_append_getElem hlt, getM_snoc, List.length_take, Nat.min_eq_left (by omega)]
      have hb := HL.out k _ (List.getElem?_eq_getElem hlt) hks
      have hxl := (l[k]).toNat_lt
      generalize l[k] = x at hsn hb hxl
      have HSN := Lib.hid hsn
      have HB := Lib.hid hb
      have hltd : decide ((k : Int) < (s.size : Int)) = true := decide_eq_true (by omega)
      have hk4 : (k : Int) ≤ 4 := by omega
      clear hsn hb hsz
      go_wp2
      rw [HB.out, get_step hgl hxl (by omega)]
      exact ⟨⟨rfl, k + 1, by omega, rfl, by rw [HSN.out]⟩, by simp only [intOf]; omega⟩
    · obtain rfl : k = l.length := by omega
      rw [List.take_length]
      have hltd : decide ((l.length : Int) < (s.size : Int)) = false := decide_eq_false (by omega)
      clear hsz
      go_wp2
      go_ret
      exact ⟨rfl, rfl⟩

end Go.Proofs.Ytbegomjbakidmaa
