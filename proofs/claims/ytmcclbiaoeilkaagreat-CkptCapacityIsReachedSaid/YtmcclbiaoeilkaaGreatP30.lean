import Derived.Test.YtmcclbiaoeilkaaGreatP18
import Derived.Test.YtmcclbiaoeilkaaGreatP29
/- Part 30 of a proof; the last part says what is proved. -/
namespace Go.Proofs.YtmcclbiaoeilkaaGreat
open Go.RowKit Go.Sl Go.ChangeMaps
structure ReadSt (w : World) (l : List UInt8) (n i : Value) (wr : World) : Prop where
  st : wr = w ∧ ∃ (k : Nat) (z : Int), k ≤ l.length ∧ z + 1 = (k : Int) ∧ i = .int .i64 z ∧ n = .int .i64 (getM (l.drop k) : Int)
set_option maxRecDepth 20000 in
set_option maxHeartbeats 1000000 in
theorem read15_any (l : List UInt8) (hl : l.length ≤ 4) (w : World) :
    Calls Tryz.prog 128 #[.string (strB l)] w fun e w' => e = .returned (.int .i64 (getM l : Int)) ∧ w = w' := by
  have hsz : (strB l).size = l.length := strB_size l
  have HL := Lib.hid (show ∀ s, s = strB l → ∀ (k : Nat) (x : UInt8), l[k]? = some x → ∀ h : k < s.size, s[k]'h = x from fun s hs k x hk h => by
    subst hs
    exact (List.getElem?_eq_some_iff.1 hk).2)
  obtain ⟨s, hs⟩ : ∃ s, strB l = s := ⟨_, rfl⟩
  replace HL := Lib.hid (HL.out s hs.symm)
  rw [hs] at hsz ⊢
  have hl4 : (l.length : Int) ≤ 4 := by omega
  clear hs
  go_enter Tryz.func128, Tryz.ntmps128
  go_wp2
  go_loopw [3, 4] (fun n i wr => ReadSt w l n i wr) (fun _ i _ => (intOf i + 1).toNat)
  case atStart => exact ⟨rfl, l.length, (l.length : Int) - 1, Nat.le_refl _, by omega, by rfl, by rw [List.drop_length]; rfl⟩
  case round =>
    obtain ⟨rfl, k, z, hk, hz, rfl, rfl⟩ := hrel.st
    clear hrel
    cases k with
    | zero =>
      obtain rfl : z = -1 := by omega
      rw [List.drop_zero]
      go_wp2
      go_ret
      exact ⟨rfl, rfl⟩
    | succ m =>
      obtain rfl : z = (m : Int) := by omega
      have hks : m < s.size := by omega
      have hgl := getM_lt (l.drop (m + 1))
      rw [List.length_drop] at hgl
      have hsn : getM (l.drop m) = (l[m]).toNat + 256 * getM (l.drop (m + 1)) := by
        rw [List.drop_eq_getElem_cons (by omega)]; rfl
      have hb := HL.out m _ (List.getElem?_eq_getElem (by omega)) hks
      have hxl := (l[m]).toNat_lt
      have hg : getM (l.drop (m + 1)) < 16777216 := Nat.lt_of_lt_of_le hgl (Nat.le_trans (Nat.pow_le_pow_right (by decide) (show l.length - (m + 1) ≤ 3 by omega)) (by decide))
      generalize l[m] = x at hsn hb hxl
      have HSN := Lib.hid hsn
      have HB := Lib.hid hb
      have hb0 := hb
      have hlm : (m : Int) ≤ 4 := by omega
      have hmd : decide ((0 : Int) ≤ (m : Int)) = true := decide_eq_true (by omega)
      clear hsn hb hgl
      generalize getM (l.drop (m + 1)) = g at hg HSN ⊢
      have hg2 : (g : Int) < 16777216 := by omega
      have hx2 : ((s[m]'hks).toNat : Int) < 256 := by rw [hb0]; omega
      have hx3 : 0 ≤ ((s[m]'hks).toNat : Int) := by omega
      have hw1 : IntKind.i64.wrap ((g : Int) * 256) = (g : Int) * 256 := IntWalk.i64_in _ (by omega)
      have hw2 : IntKind.i64.wrap (((s[m]'hks).toNat : Int)) = ((s[m]'hks).toNat : Int) := IntWalk.i64_in _ (by omega)
      have hw3 : IntKind.i64.wrap ((g : Int) * 256 + ((s[m]'hks).toNat : Int)) = (g : Int) * 256 + ((s[m]'hks).toNat : Int) := IntWalk.i64_in _ (by omega)
      clear hg hxl hl hk hz hg2 hx2 hx3 hb0
      go_wp2
      rw [HB.out]
      refine ⟨⟨rfl, m, (m : Int) - 1, by omega, by omega, rfl, ?_⟩, by simp only [intOf]; omega⟩
      rw [HSN.out]
      congr 1
      omega
set_option maxHeartbeats 1000000 in
theorem fits15_any (n : Int) (w : World) : Calls Tryz.prog 149 #[.int .i64 n] w fun e w' => e = .returned (.bool (decide (0 ≤ n) && decide (n < 4294967296))) ∧ w = w' := by
  cases h1 : decide (0 ≤ n)
  · go_enter Tryz.func149, Tryz.ntmps149
    go_wp2
    go_ret
    exact ⟨rfl, rfl⟩
  · cases h2 : decide (n < 4294967296)
    all_goals
      go_enter Tryz.func149, Tryz.ntmps149
      go_wp2
      go_ret
      exact ⟨rfl, rfl⟩
set_option maxHeartbeats 1000000 in
theorem valid15_any (a : PlaceM) (w : World) : Calls Tryz.prog 129 #[.agg (plA a)] w fun e w' => e = .returned (.bool (placeOK a)) ∧ Below w.heap.size w w' := by
  have h65 : decide (a.index < 65536) = decide (a.index ≤ 65535) := by rw [Bool.eq_iff_iff]; simp only [decide_eq_true_eq]; omega
  have he : placeOK a = (decide (0 ≤ a.disk) && decide (a.disk < 64) && decide (1 ≤ a.area) && decide (a.area ≤ 4) && decide (0 ≤ a.index) && decide (a.index ≤ 65535)) := by rw [← h65]; rfl
  clear h65
  cases h0 : decide (0 ≤ a.disk)
  · rw [he, h0]; clear he
    go_enter Tryz.func129, Tryz.ntmps129
    go_wp2
    go_ret
    exact ⟨rfl, (Below.refl _ _).alloc (Nat.le_refl _) _⟩
  cases h1 : decide (a.disk < 64)
  · rw [he, h0, h1]; clear he
    go_enter Tryz.func129, Tryz.ntmps129
    go_wp2
    go_ret
    exact ⟨rfl, (Below.refl _ _).alloc (Nat.le_refl _) _⟩
  cases h2 : decide (1 ≤ a.area)
  · rw [he, h0, h1, h2]; clear he
    go_enter Tryz.func129, Tryz.ntmps129
    go_wp2
    go_ret
    exact ⟨rfl, (Below.refl _ _).alloc (Nat.le_refl _) _⟩
  cases h3 : decide (a.area ≤ 4)
  · rw [he, h0, h1, h2, h3]; clear he
    go_enter Tryz.func129, Tryz.ntmps129
    go_wp2
    go_ret
    exact ⟨rfl, (Below.refl _ _).alloc (Nat.le_refl _) _⟩
  cases h4 : decide (0 ≤ a.index)
  · rw [he, h0, h1, h2, h3, h4]; clear he
    go_enter Tryz.func129, Tryz.ntmps129
    go_wp2
    go_ret
    exact ⟨rfl, (Below.refl _ _).alloc (Nat.le_refl _) _⟩
  cases h5 : decide (a.index ≤ 65535)
  · rw [he, h0, h1, h2, h3, h4, h5]; clear he
    go_enter Tryz.func129, Tryz.ntmps129
    go_wp2
    go_ret
    exact ⟨rfl, (Below.refl _ _).alloc (Nat.le_refl _) _⟩
  rw [he, h0, h1, h2, h3, h4, h5]; clear he
  go_enter Tryz.func129, Tryz.ntmps129
  go_wp2
  go_ret
  exact ⟨rfl, (Below.refl _ _).alloc (Nat.le_refl _) _⟩
theorem genOK_eq (e c : Int) : genOK ⟨e, c⟩ = ((decide (0 ≤ e) && decide (e < 4294967296)) && (decide (0 ≤ c) && decide (c < 4294967296)) && decide ((⟨e, c⟩ : GenM) ≠ g0)) := by
  rw [Bool.eq_iff_iff, genOK_iff]
  simp only [Bool.and_eq_true, decide_eq_true_eq]
  constructor
  · rintro ⟨h1, h2, h3, h4, h5⟩; exact ⟨⟨⟨h1, h3⟩, h2, h4⟩, h5⟩
  · rintro ⟨⟨⟨h1, h3⟩, h2, h4⟩, h5⟩; exact ⟨h1, h2, h3, h4, h5⟩
set_option maxRecDepth 20000 in
set_option maxHeartbeats 2000000 in
theorem right15_any (g : GenM) (w : World) : Calls Tryz.prog 130 #[.agg (genA g)] w fun e w' => e = .returned (.bool (genOK g)) ∧ Below w.heap.size w w' := by
  obtain ⟨e, c⟩ := g
  have he := genOK_eq e c
  have hf1 := fun W => fits15_any e W
  have hf2 := fun W => fits15_any c W
  generalize (decide (0 ≤ e) && decide (e < 4294967296)) = be at he hf1
  generalize (decide (0 ≤ c) && decide (c < 4294967296)) = bc at he hf2
  have HE := Lib.hid he
  clear he
  cases be
  · cases bc
    all_goals
      have HE0 := Lib.hid (show Ending.returned (Value.bool false) = Ending.returned (Value.bool (genOK ⟨e, c⟩)) from by rw [HE.out]; rfl)
      go_enter Tryz.func130, Tryz.ntmps130
      go_upto_region 2 with (go_at_call 149; refine (hf1 _).mono ?_; rintro e w1 ⟨rfl, rfl⟩)
      go_wp2_with (go_at_call 149; refine (hf2 _).mono ?_; rintro e w1 ⟨rfl, rfl⟩)
      go_ret
      exact ⟨HE0.out, (Below.refl _ _).alloc (Nat.le_refl _) _⟩
  · cases bc
    · have HE0 := Lib.hid (show Ending.returned (Value.bool false) = Ending.returned (Value.bool (genOK ⟨e, c⟩)) from by rw [HE.out]; rfl)
      go_enter Tryz.func130, Tryz.ntmps130
      go_upto_region 2 with (go_at_call 149; refine (hf1 _).mono ?_; rintro e w1 ⟨rfl, rfl⟩)
      go_wp2_with (go_at_call 149; refine (hf2 _).mono ?_; rintro e w1 ⟨rfl, rfl⟩)
      go_ret
      exact ⟨HE0.out, (Below.refl _ _).alloc (Nat.le_refl _) _⟩
    · by_cases e0 : e = 0
      · subst e0
        by_cases c0 : c = 0
        · subst c0
          have hn : genOK ⟨0, 0⟩ = false := by decide
          rw [hn]
          go_enter Tryz.func130, Tryz.ntmps130
          go_upto_region 2 with (go_at_call 149; refine (hf1 _).mono ?_; rintro e w1 ⟨rfl, rfl⟩)
          go_wp2_with (go_at_call 149; refine (hf2 _).mono ?_; rintro e w1 ⟨rfl, rfl⟩)
          go_ret
          exact ⟨rfl, (Below.refl _ _).alloc (Nat.le_refl _) _⟩
        · have cb : (c == 0) = false := by simp [c0]
          replace HE := Lib.hid (HE.out.trans (show (true && true && decide ((⟨0, c⟩ : GenM) ≠ g0)) = true by simp [g0, c0]))
          have HE0 := Lib.hid (show Ending.returned (Value.bool true) = Ending.returned (Value.bool (genOK ⟨0, c⟩)) from by rw [HE.out])
          clear c0
          go_enter Tryz.func130, Tryz.ntmps130
          go_upto_region 2 with (go_at_call 149; refine (hf1 _).mono ?_; rintro e w1 ⟨rfl, rfl⟩)
          go_wp2_with (go_at_call 149; refine (hf2 _).mono ?_; rintro e w1 ⟨rfl, rfl⟩)
          go_ret
          exact ⟨HE0.out, (Below.refl _ _).alloc (Nat.le_refl _) _⟩
      · have eb : (e == 0) = false := by simp [e0]
        replace HE := Lib.hid (HE.out.trans (show (true && true && decide ((⟨e, c⟩ : GenM) ≠ g0)) = true by simp [g0, e0]))
        have HE0 := Lib.hid (show Ending.returned (Value.bool true) = Ending.returned (Value.bool (genOK ⟨e, c⟩)) from by rw [HE.out])
        clear e0
        go_enter Tryz.func130, Tryz.ntmps130
        go_upto_region 2 with (go_at_call 149; refine (hf1 _).mono ?_; rintro e w1 ⟨rfl, rfl⟩)
        go_wp2_with (go_at_call 149; refine (hf2 _).mono ?_; rintro e w1 ⟨rfl, rfl⟩)
        go_ret
        exact ⟨HE0.out, (Below.refl _ _).alloc (Nat.le_refl _) _⟩
end Go.Proofs.YtmcclbiaoeilkaaGreat
