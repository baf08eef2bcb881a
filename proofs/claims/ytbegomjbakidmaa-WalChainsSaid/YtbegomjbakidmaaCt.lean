/- sector.Valid, validGen, Newer, wal.put, wal.get, strings.Clone. -/
import Derived.Test.YtbegomjbakidmaaCs
namespace Go.Proofs.Ytbegomjbakidmaa
open Go.RowKit Go.Sl Go.ChangeMaps

structure GenM where
  epoch : Int
  count : Int
  deriving DecidableEq
abbrev TGen : TypeId := 29
abbrev genA (g : GenM) : Array Value := #[.int .i64 g.epoch, .int .i64 g.count]
def g0 : GenM := ⟨0, 0⟩
def newerM (a b : GenM) : Bool := decide (b.epoch < a.epoch) || (decide (a.epoch = b.epoch) && decide (b.count < a.count))
def placeOK (a : PlaceM) : Bool := decide (0 ≤ a.disk) && decide (a.disk < 64) && decide (1 ≤ a.area) && decide (a.area ≤ 4) && decide (0 ≤ a.index) && decide (a.index < 65536)
set_option maxHeartbeats 1000000 in
theorem valid_any (a : PlaceM) (w : World) : Calls Try.prog 54 #[.agg (plA a)] w fun e w' => e = .returned (.bool (placeOK a)) ∧ Below w.heap.size w w' := by
  have he : placeOK a = (decide (0 ≤ a.disk) && decide (a.disk < 64) && decide (1 ≤ a.area) && decide (a.area ≤ 4) && decide (0 ≤ a.index) && decide (a.index < 65536)) := rfl
  cases h0 : decide (0 ≤ a.disk)
  · rw [he, h0]; clear he
    go_enter Try.func54, Try.ntmps54
    go_wp2
    go_ret
    exact ⟨rfl, (Below.refl _ _).alloc (Nat.le_refl _) _⟩
  cases h1 : decide (a.disk < 64)
  · rw [he, h0, h1]; clear he
    go_enter Try.func54, Try.ntmps54
    go_wp2
    go_ret
    exact ⟨rfl, (Below.refl _ _).alloc (Nat.le_refl _) _⟩
  cases h2 : decide (1 ≤ a.area)
  · rw [he, h0, h1, h2]; clear he
    go_enter Try.func54, Try.ntmps54
    go_wp2
    go_ret
    exact ⟨rfl, (Below.refl _ _).alloc (Nat.le_refl _) _⟩
  cases h3 : decide (a.area ≤ 4)
  · rw [he, h0, h1, h2, h3]; clear he
    go_enter Try.func54, Try.ntmps54
    go_wp2
    go_ret
    exact ⟨rfl, (Below.refl _ _).alloc (Nat.le_refl _) _⟩
  cases h4 : decide (0 ≤ a.index)
  · rw [he, h0, h1, h2, h3, h4]; clear he
    go_enter Try.func54, Try.ntmps54
    go_wp2
    go_ret
    exact ⟨rfl, (Below.refl _ _).alloc (Nat.le_refl _) _⟩
  cases h5 : decide (a.index < 65536)
  · rw [he, h0, h1, h2, h3, h4, h5]; clear he
    go_enter Try.func54, Try.ntmps54
    go_wp2
    go_ret
    exact ⟨rfl, (Below.refl _ _).alloc (Nat.le_refl _) _⟩
  rw [he, h0, h1, h2, h3, h4, h5]; clear he
  go_enter Try.func54, Try.ntmps54
  go_wp2
  go_ret
  exact ⟨rfl, (Below.refl _ _).alloc (Nat.le_refl _) _⟩

def genOK (g : GenM) : Bool := decide (0 ≤ min g.epoch g.count) && decide (max g.epoch g.count < 4294967296) && decide (g ≠ g0)
set_option maxHeartbeats 1000000 in
theorem validGen_any (g : GenM) (w : World) : Calls Try.prog 55 #[.agg (genA g)] w fun e w' => e = .returned (.bool (genOK g)) ∧ Below w.heap.size w w' := by
  have he : genOK g = (decide (0 ≤ min g.epoch g.count) && decide (max g.epoch g.count < 4294967296) && decide (g ≠ g0)) := rfl
  cases h0 : decide (0 ≤ min g.epoch g.count)
  · rw [he, h0]; clear he
    go_enter Try.func55, Try.ntmps55
    go_wp2
    go_ret
    exact ⟨rfl, (Below.refl _ _).alloc (Nat.le_refl _) _⟩
  cases h1 : decide (max g.epoch g.count < 4294967296)
  · rw [he, h0, h1]; clear he
    go_enter Try.func55, Try.ntmps55
    go_wp2
    go_ret
    exact ⟨rfl, (Below.refl _ _).alloc (Nat.le_refl _) _⟩
  rw [he, h0, h1]; clear he
  obtain ⟨e, c⟩ := g
  simp only at h0 h1
  by_cases e0 : e = 0
  · subst e0
    by_cases c0 : c = 0
    · subst c0
      go_enter Try.func55, Try.ntmps55
      go_wp2
      go_ret
      exact ⟨by simp [g0], (Below.refl _ _).alloc (Nat.le_refl _) _⟩
    · have cb : (c == 0) = false := by simp [c0]
      rw [show (true && true && decide ((⟨0, c⟩ : GenM) ≠ g0)) = true by simp [g0, c0]]
      clear c0
      go_enter Try.func55, Try.ntmps55
      go_wp2
      go_ret
      exact ⟨by rfl, (Below.refl _ _).alloc (Nat.le_refl _) _⟩
  · have eb : (e == 0) = false := by simp [e0]
    rw [show (true && true && decide ((⟨e, c⟩ : GenM) ≠ g0)) = true by simp [g0, e0]]
    clear e0
    go_enter Try.func55, Try.ntmps55
    go_wp2
    go_ret
    exact ⟨by rfl, (Below.refl _ _).alloc (Nat.le_refl _) _⟩

set_option maxHeartbeats 1000000 in
theorem wput_any (v : Value) (l : List UInt8) (n sz : Nat) (hn : n < 4611686018427387904) (hsz : sz ≤ 8) (hl : l.length ≤ 1000000) (F : HProp) (w : World) (hS : Sat w (ownB v l * F)) :
    Calls Try.prog 53 #[v, .int .i64 (n : Int), .int .i64 (sz : Int)] w fun e w' => ∃ v', e = .returned v' ∧ Hid (Same w w' ∧ Sat w' (ownB v' (l ++ leL n sz) * F)) := by
  obtain ⟨ti, hti, hz0, hts, hz2⟩ := info_parts infoB3
  have HS := Lib.hid hS
  clear hS
  go_enter Try.func53, Try.ntmps53
  go_wp2
  go_loopw [0, 1, 8] (fun b x i wr => PutSt w .i64 l n sz F b x i wr) (fun _ _ i _ => sz - (intOf i).toNat)
  case atStart => exact ⟨⟨0, by omega, rfl, by simp, Same.refl w, by simpa [leL] using HS.out⟩⟩
  case round =>
    obtain ⟨k, hk, rfl, rfl, hsm, hs⟩ := hrel.st
    clear hrel HS
    have H1 := Lib.hid (And.intro hsm hs)
    obtain ⟨ao, cap, rfl⟩ := ownAt_slice hs
    clear hsm hs
    by_cases hlt : k < sz
    · have hltd : decide ((k : Int) < (sz : Int)) = true := decide_eq_true (by omega)
      have hk1 : (k : Int) ≤ 8 := by omega
      have hml : n / 256 ^ k < 4611686018427387904 := Nat.lt_of_le_of_lt (Nat.div_le_self _ _) hn
      have hlb := leB_val n k
      have hsucc : n / 256 ^ k / 256 = n / 256 ^ (k + 1) := by rw [Nat.div_div_eq_div_mul, Nat.pow_succ]
      have HLB := Lib.hid hlb
      have HSU := Lib.hid hsucc
      have HLEN := Lib.hid (show (l ++ leL n k).length ≤ 1000008 by rw [List.length_append, leL_length]; omega)
      clear hlb hsucc hl
      generalize n / 256 ^ k = m at hml HLB HSU ⊢
      have hm0 : (0 : Int) ≤ (m : Int) := by omega
      have hm1 : (m : Int) < 4611686018427387904 := by omega
      go_wp2_with (at_builtin; rw [HLB.out]; refine wpList_append_ownAt (F := F) rfl _ _ 95 TByte rfl ti _ Try.underlying95 hti hz0 hts hz2 rfl (H1.out.2.allocKeep _) [.int .u8 ((leB n k).toNat : Int)] rfl rfl rfl ?_ (by simp [Value.oneCell']) (by have := HLEN.out; unfold maxLen; omega) (by have := HLEN.out; omega) ?_)
      · intro j u hu
        match j, hu with
        | 0, hu => rw [Addr.add_mid, cells_at (heap_alloc_new _ _)]; simpa using hu
      intro v' w2 h2
      replace H1 := Lib.hid (And.intro ((H1.out.1.alloc _).trans h2.out.1) h2.out.2)
      clear h2
      go_wp2
      refine ⟨⟨k + 1, by omega, rfl, by rw [← HSU.out]; congr 1, H1.out.1, ?_⟩, by simp only [intOf]; omega⟩
      have e : secL (l ++ leL n (k + 1)) = secL (l ++ leL n k) ++ [.int .u8 ((leB n k).toNat : Int)] := by simp [secL, leL_succ, byteV]
      unfold ownB
      rw [e, List.length_append, leL_length]
      have := H1.out.2
      rw [leL_length, Nat.add_assoc] at this
      exact this
    · obtain rfl : k = sz := by omega
      have hltd : decide ((k : Int) < (k : Int)) = false := decide_eq_false (by omega)
      go_wp2
      go_ret
      exact ⟨_, rfl, H1.out⟩

set_option maxHeartbeats 1000000 in
theorem wget_any (l : List UInt8) (hl : l.length ≤ 4) (w : World) :
    Calls Try.prog 71 #[.string (strB l)] w fun e w' => e = .returned (.int .i64 (getM l : Int)) ∧ w = w' := by
  have hsz : (strB l).size = l.length := strB_size l
  have HL := Lib.hid (show ∀ s, s = strB l → ∀ (k : Nat) (x : UInt8), l[k]? = some x → ∀ h : k < s.size, s[k]'h = x from fun s hs k x hk h => by
    subst hs
    exact (List.getElem?_eq_some_iff.1 hk).2)
  obtain ⟨s, hs⟩ : ∃ s, strB l = s := ⟨_, rfl⟩
  replace HL := Lib.hid (HL.out s hs.symm)
  rw [hs] at hsz ⊢
  have HSZ := Lib.hid hsz
  clear hs
  go_enter Try.func71, Try.ntmps71
  go_wp2
  go_loopw [3, 4, 7] (fun n _ i wr => GetSt w l n i wr) (fun _ _ i _ => 4 - (intOf i).toNat)
  case atStart => exact ⟨rfl, 0, by omega, rfl, rfl⟩
  case round =>
    obtain ⟨rfl, k, hk, rfl, rfl⟩ := hrel.st
    clear hrel
    by_cases hlt : k < l.length
    · have hks : k < s.size := by omega
      have hgl := getM_lt (l.take k)
      rw [List.length_take, Nat.min_eq_left (by omega)] at hgl
      have hsn : getM (l.take (k + 1)) = getM (l.take k) + (l[k]).toNat * 256 ^ k := by
        rw [List.take_succ_eq_append_getElem hlt, getM_snoc, List.length_take, Nat.min_eq_left (by omega)]
      have hb := HL.out k _ (List.getElem?_eq_getElem hlt) hks
      have hxl := (l[k]).toNat_lt
      generalize l[k] = x at hsn hb hxl
      have HSN := Lib.hid hsn
      have HB := Lib.hid hb
      have hltd : decide ((k : Int) < (s.size : Int)) = true := decide_eq_true (by omega)
      have hk4 : (k : Int) ≤ 4 := by omega
      clear hsn hb hsz
      go_wp2
      rw [HB.out, get_step hgl hxl (by omega)]
      exact ⟨⟨rfl, k + 1, by omega, rfl, by rw [HSN.out]⟩, by simp only [intOf]; omega⟩
    · obtain rfl : k = l.length := by omega
      rw [List.take_length]
      have hltd : decide ((l.length : Int) < (s.size : Int)) = false := decide_eq_false (by omega)
      clear hsz
      go_wp2
      go_ret
      exact ⟨rfl, rfl⟩

end Go.Proofs.Ytbegomjbakidmaa
