import Derived.Test.YteikbikopgabjaaGreatDoorU19
import Derived.Test.YteikbikopgabjaaGreatDoorU20
/- Part 21 of a proof; the last part says what is proved. -/
namespace Go.GF
open Go Go.RowKit
def dblN (a : Nat) : Nat := 2 * a
def halfN (a : Nat) : Nat := a / 2
theorem b_rem2 (t : TypeId) (a : Nat) : binOp .rem t (.int .i64 (a : Int)) (.int .i64 2) = pure (.int .i64 ((andN a : Nat) : Int)) := by
  have hy0 : ¬ ((2 : Int) = 0) := by decide
  have e : (a : Int).tmod 2 = ((a % 2 : Nat) : Int) := by rw [Int.natCast_emod]; exact Int.tmod_eq_emod_of_nonneg (by omega)
  have h0 : binOp .rem t (.int .i64 (a : Int)) (.int .i64 2) = Op.intDiv .rem .i64 (a : Int) 2 := rfl
  rw [h0]
  unfold Op.intDiv
  rw [if_neg hy0, e]
  rfl
theorem b_quo2 (t : TypeId) (a : Nat) (ha : a < 4611686018427387904) : binOp .quo t (.int .i64 (a : Int)) (.int .i64 2) = pure (.int .i64 ((halfN a : Nat) : Int)) := by
  have hy0 : ¬ ((2 : Int) = 0) := by decide
  have e : (a : Int).tdiv 2 = ((a / 2 : Nat) : Int) := by rw [Int.natCast_ediv]; exact Int.tdiv_eq_ediv_of_nonneg (by omega)
  have hw : IntKind.i64.wrap ((a / 2 : Nat) : Int) = ((a / 2 : Nat) : Int) := wrap_nat (by omega)
  have h0 : binOp .quo t (.int .i64 (a : Int)) (.int .i64 2) = Op.intDiv .quo .i64 (a : Int) 2 := rfl
  rw [h0]
  unfold Op.intDiv
  rw [if_neg hy0, e]
  show (pure (Value.int .i64 (IntKind.i64.wrap ((a / 2 : Nat) : Int))) : Sem Value) = _
  rw [hw]; rfl
theorem b_2mul (t : TypeId) (a : Nat) (ha : a < 2305843009213693952) : binOp .mul t (.int .i64 2) (.int .i64 (a : Int)) = pure (.int .i64 ((dblN a : Nat) : Int)) := by
  have hw : IntKind.i64.wrap (2 * (a : Int)) = 2 * (a : Int) := IntWalk.i64_in _ (by omega)
  show (pure (Value.int .i64 (IntKind.i64.wrap (2 * (a : Int)))) : Sem Value) = _
  rw [hw]
  unfold dblN
  rw [Int.natCast_mul]; rfl
theorem prod_round {t : Nat → Nat} (ht : Lin t) (o a b : Nat) : o ^^^ ev t a b = (o ^^^ bitM b a) ^^^ ev t (t a) (b / 2) := by
  rw [ev_eq ht a b, ← ev_t ht a (b / 2), Nat.xor_assoc, Nat.xor_comm (bitM b a)]
theorem tm_next {m P a b o v a2 o2 : Nat} (hF : Fld m P) (ha : a < 2 ^ m) (hb : b < 2 ^ m) (ho : o < 2 ^ m) (he : o ^^^ ev (xt m P) a b = v) (h1 : a2 = xt m P a) (h2 : o2 = o ^^^ bitM b a) :
    a2 < 2 ^ m ∧ halfN b < 2 ^ m ∧ o2 < 2 ^ m ∧ o2 ^^^ ev (xt m P) a2 (halfN b) = v := by
  subst h1 h2
  refine ⟨xt_lt hF ha, ?_, Nat.xor_lt_two_pow ho ?_, ?_⟩
  · unfold halfN; omega
  · unfold bitM
    split
    · exact ha
    · exact Nat.pow_pos (by omega)
  · unfold halfN
    rw [← prod_round (lin_xt m P)]; exact he
theorem xor_zeroR (a : Nat) : a ^^^ 0 = a := Nat.xor_zero a
end Go.GF
namespace Go.Proofs.YteikbikopgabjaaGreatDoor
open Go.RowKit Go.GF
attribute [local go_sem high] b_shl b_shl1 b_shr b_shr1 b_xor b_and1 b_nz b_1shl b_rem2 b_quo2 b_2mul
theorem rpoly_any (m : Int) (w : World) : Calls Tryz.prog 124 #[.int .i64 m] w fun e w' => e = .returned (.int .i64 (modI m)) ∧ Below w.heap.size w w' := by
  by_cases h8 : m = 8
  · subst h8
    go_enter Tryz.func124, Tryz.ntmps124
    go_wp2
    go_ret
    exact ⟨rfl, Below.refl _ _⟩
  by_cases h16 : m = 16
  · subst h16
    go_enter Tryz.func124, Tryz.ntmps124
    go_wp2
    go_ret
    exact ⟨rfl, Below.refl _ _⟩
  have d8 : (m == 8) = false := by simpa using h8
  have d16 : (m == 16) = false := by simpa using h16
  have HZ := Lib.hid (show modI m = 0 by unfold modI; rw [if_neg h8, if_neg h16])
  clear h8 h16
  go_enter Tryz.func124, Tryz.ntmps124
  go_wp2
  go_ret
  exact ⟨by rw [HZ.out]; rfl, Below.refl _ _⟩
structure TmS (w : World) (m a b : Nat) (av bv ov : Value) (wr : World) : Prop where
  st : ∃ a' b' o : Nat, av = .int .i64 (a' : Int) ∧ bv = .int .i64 (b' : Int) ∧ ov = .int .i64 (o : Int) ∧ a' < 2 ^ m ∧ b' < 2 ^ m ∧ o < 2 ^ m ∧ o ^^^ ev (xt m (modP m)) a' b' = ev (xt m (modP m)) a b ∧ Below w.heap.size w wr
set_option maxRecDepth 20000 in
set_option maxHeartbeats 2000000 in
theorem rtimes_any (m : Nat) (hm : isF m) (a b : Nat) (ha : a < 2 ^ m) (hb : b < 2 ^ m) (w : World) :
    Calls Tryz.prog 171 #[.int .i64 (m : Int), .int .i64 (a : Int), .int .i64 (b : Int)] w fun e w' => e = .returned (.int .i64 ((mulC m a b : Nat) : Int)) ∧ Below w.heap.size w w' := by
  have HPL := Lib.hid (rpoly_any (m : Int) w)
  rw [modI_nat hm] at HPL
  have hF := fld hm
  have hPl := modP_lt hm
  have hm16 : m ≤ 16 := by rcases hm with rfl | rfl <;> omega
  have hm61 : m ≤ 61 := by omega
  have hpw : 2 ^ m ≤ 65536 := Nat.pow_le_pow_right (n := 2) (by omega) hm16
  have HM := Lib.hid (mulC_eq (a := a) hb)
  have HX := Lib.hid (And.intro hF (And.intro ha hb))
  obtain ⟨P, hP⟩ : ∃ P, modP m = P := ⟨_, rfl⟩
  have HP := Lib.hid hP
  rw [hP] at HX hPl HPL HM
  have hP62 : P < 4611686018427387904 := by omega
  have HW := Lib.hid hpw
  clear hF ha hb hP hpw
  go_enter Tryz.func171, Tryz.ntmps171
  go_wp2_with (go_at_call 124; refine HPL.out.mono ?_; rintro e w1 ⟨rfl, h1⟩)
  have HB1 := Lib.hid h1
  clear h1 HPL
  go_loopw [1, 2, 8] (fun av bv ov wr => TmS w m a b av bv ov wr) (fun _ bv _ _ => (intOf bv).toNat)
  case atStart => exact ⟨⟨a, b, 0, rfl, rfl, rfl, HX.out.2.1, HX.out.2.2, Nat.pow_pos (by omega), Nat.zero_xor _, HB1.out⟩⟩
  case round =>
    clear HB1
    obtain ⟨a', b', o, rfl, rfl, rfl, ha', hb', ho, he, hbw⟩ := hrel.st
    rw [HP.out] at he
    clear hrel
    by_cases hb0 : b' = 0
    · subst hb0
      have HE := Lib.hid (And.intro he hbw)
      clear he hbw ha' hb' ho
      go_wp2
      go_ret
      refine ⟨?_, HE.out.2⟩
      have := HE.out.1
      rw [ev_zero (lin_xt m P), xor_zeroR] at this
      rw [this, HM.out]
      rfl
    · have hb1 : 0 < b' := by omega
      have d0 : decide (0 < b') = true := decide_eq_true hb1
      have ha62 : a' < 2305843009213693952 := by have := HW.out; omega
      have ha63 : a' < 4611686018427387904 := by omega
      have hb62 : b' < 4611686018427387904 := by have := HW.out; omega
      have ho62 : o < 4611686018427387904 := by have := HW.out; omega
      have hd62 : dblN a' < 4611686018427387904 := by unfold dblN; omega
      have HE := Lib.hid (And.intro ha' (And.intro hb' (And.intro ho (And.intro he hbw))))
      clear ha' hb' ho he hbw hb0
      by_cases hbit : b' % 2 = 1
      · have hA : andN b' = 1 := hbit
        have HI := Lib.hid hbit
        clear hbit
        by_cases hc : 2 ^ m ≤ 2 * a'
        · have hd : decide (powN m ≤ dblN a') = true := decide_eq_true hc
          have HC := Lib.hid hc
          clear hc
          go_wp2
          go_roundw
          case rel =>
            obtain ⟨n1, n2, n3, n4⟩ := tm_next (a2 := xorN (dblN a') P) (o2 := xorN o a') HX.out.1 HE.out.1 HE.out.2.1 HE.out.2.2.1 HE.out.2.2.2.1 (by rw [xt_if HE.out.1, if_pos HC.out]; rfl) (by unfold bitM; rw [if_pos HI.out]; rfl)
            exact ⟨⟨_, _, _, rfl, rfl, rfl, n1, n2, n3, by rw [HP.out]; exact n4, HE.out.2.2.2.2⟩⟩
          case measure => simp only [intOf, halfN]; omega
        · have hd : decide (powN m ≤ dblN a') = false := decide_eq_false hc
          have HC := Lib.hid hc
          clear hc
          go_wp2
          go_roundw
          case rel =>
            obtain ⟨n1, n2, n3, n4⟩ := tm_next (a2 := dblN a') (o2 := xorN o a') HX.out.1 HE.out.1 HE.out.2.1 HE.out.2.2.1 HE.out.2.2.2.1 (by rw [xt_if HE.out.1, if_neg HC.out]; rfl) (by unfold bitM; rw [if_pos HI.out]; rfl)
            exact ⟨⟨_, _, _, rfl, rfl, rfl, n1, n2, n3, by rw [HP.out]; exact n4, HE.out.2.2.2.2⟩⟩
          case measure => simp only [intOf, halfN]; omega
      · have hA : andN b' = 0 := by unfold andN; omega
        have HI := Lib.hid hbit
        clear hbit
        by_cases hc : 2 ^ m ≤ 2 * a'
        · have hd : decide (powN m ≤ dblN a') = true := decide_eq_true hc
          have HC := Lib.hid hc
          clear hc
          go_wp2
          go_roundw
          case rel =>
            obtain ⟨n1, n2, n3, n4⟩ := tm_next (a2 := xorN (dblN a') P) (o2 := o) HX.out.1 HE.out.1 HE.out.2.1 HE.out.2.2.1 HE.out.2.2.2.1 (by rw [xt_if HE.out.1, if_pos HC.out]; rfl) (by unfold bitM; rw [if_neg HI.out]; exact (Nat.xor_zero o).symm)
            exact ⟨⟨_, _, _, rfl, rfl, rfl, n1, n2, n3, by rw [HP.out]; exact n4, HE.out.2.2.2.2⟩⟩
          case measure => simp only [intOf, halfN]; omega
        · have hd : decide (powN m ≤ dblN a') = false := decide_eq_false hc
          have HC := Lib.hid hc
          clear hc
          go_wp2
          go_roundw
          case rel =>
            obtain ⟨n1, n2, n3, n4⟩ := tm_next (a2 := dblN a') (o2 := o) HX.out.1 HE.out.1 HE.out.2.1 HE.out.2.2.1 HE.out.2.2.2.1 (by rw [xt_if HE.out.1, if_neg HC.out]; rfl) (by unfold bitM; rw [if_neg HI.out]; exact (Nat.xor_zero o).symm)
            exact ⟨⟨_, _, _, rfl, rfl, rfl, n1, n2, n3, by rw [HP.out]; exact n4, HE.out.2.2.2.2⟩⟩
          case measure => simp only [intOf, halfN]; omega
end Go.Proofs.YteikbikopgabjaaGreatDoor
namespace Go.GF
open Go Go.RowKit
section
variable {q : Nat} {mul : Nat → Nat → Nat} {inv : Nat → Nat}
theorem pw_sq (h : Ops q mul inv) {a : Nat} (ha : a < q) : ∀ k, pw mul (mul a a) k = pw mul a (2 * k)
  | 0 => rfl
  | k + 1 => by
    show mul (mul a a) (pw mul (mul a a) k) = mul a (mul a (pw mul a (2 * k)))
    rw [pw_sq h ha k, h.assoc a a _ ha ha (pw_lt h ha _)]
theorem pw_round (h : Ops q mul inv) {a o n v : Nat} (ha : a < q) (ho : o < q) (he : mul o (pw mul a n) = v) :
    mul a a < q ∧ mul o a < q ∧ mul (if n % 2 = 1 then mul o a else o) (pw mul (mul a a) (n / 2)) = v := by
  refine ⟨h.lt _ _ ha ha, h.lt _ _ ho ha, ?_⟩
  rw [pw_sq h ha]
  by_cases hn : n % 2 = 1
  · rw [if_pos hn, h.assoc o a _ ho ha (pw_lt h ha _)]
    rw [show mul a (pw mul a (2 * (n / 2))) = pw mul a (2 * (n / 2) + 1) from rfl, show 2 * (n / 2) + 1 = n by omega]
    exact he
  · rw [if_neg hn, show 2 * (n / 2) = n by omega]
    exact he
end
end Go.GF
namespace Go.Proofs.YteikbikopgabjaaGreatDoor
open Go.RowKit Go.GF
attribute [local go_sem high] b_shl b_shl1 b_shr b_shr1 b_xor b_and1 b_nz b_1shl b_rem2 b_quo2 b_2mul
structure PwS (w : World) (m a N : Nat) (av nv ov : Value) (wr : World) : Prop where
  st : ∃ a' n o : Nat, av = .int .i64 (a' : Int) ∧ nv = .int .i64 (n : Int) ∧ ov = .int .i64 (o : Int) ∧ a' < 2 ^ m ∧ n ≤ N ∧ o < 2 ^ m ∧ mulC m o (pw (mulC m) a' n) = pw (mulC m) a N ∧ Below w.heap.size w wr
set_option maxRecDepth 20000 in
set_option maxHeartbeats 2000000 in
theorem rpower_any (m : Nat) (hm : isF m) (a : Nat) (ha : a < 2 ^ m) (N : Nat) (hN : N ≤ 65536) (w : World) :
    Calls Tryz.prog 170 #[.int .i64 (m : Int), .int .i64 (a : Int), .int .i64 (N : Int)] w fun e w' => e = .returned (.int .i64 ((pw (mulC m) a N : Nat) : Int)) ∧ Below w.heap.size w w' := by
  have HO := Lib.hid (opsC hm)
  have HTM := Lib.hid (fun a b ha hb W => rtimes_any m hm a b ha hb W)
  have HA := Lib.hid ha
  have h1m : 1 < 2 ^ m := HO.out.one_lt
  have H1 := Lib.hid h1m
  clear ha h1m
  go_enter Tryz.func170, Tryz.ntmps170
  go_wp2
  go_loopw [1, 2, 7] (fun av nv ov wr => PwS w m a N av nv ov wr) (fun _ nv _ _ => (intOf nv).toNat)
  case atStart => exact ⟨⟨a, N, 1, rfl, rfl, rfl, HA.out, Nat.le_refl _, H1.out, HO.out.ol (pw_lt HO.out HA.out _), Below.refl _ _⟩⟩
  case round =>
    obtain ⟨a', n, o, rfl, rfl, rfl, ha', hn, ho, he, hb⟩ := hrel.st
    clear hrel
    have HE := Lib.hid (And.intro ha' (And.intro hn (And.intro ho (And.intro he hb))))
    by_cases hn0 : n = 0
    · subst hn0
      clear ha' hn ho he hb
      go_wp2
      go_ret
      refine ⟨?_, HE.out.2.2.2.2⟩
      have := HE.out.2.2.2.1
      rw [show pw (mulC m) a' 0 = 1 from rfl, HO.out.one o HE.out.2.2.1] at this
      rw [this]
      rfl
    · have d0 : decide (0 < n) = true := decide_eq_true (by omega)
      have hn62 : n < 4611686018427387904 := by omega
      have HR := Lib.hid (pw_round HO.out ha' ho he)
      have HNN := Lib.hid hn0
      clear ha' hn ho he hb hn0
      by_cases hbit : n % 2 = 1
      · have hA : andN n = 1 := hbit
        have HI := Lib.hid hbit
        clear hbit
        have HT1 := Lib.hid (HTM.out o a' HE.out.2.2.1 HE.out.1)
        have HT2 := Lib.hid (HTM.out a' a' HE.out.1 HE.out.1)
        go_upto_region 5 with (go_at_call 171; refine (HT1.out _).mono ?_; clear HT1; rintro e w1 ⟨rfl, h1⟩)
        go_wp2_with (go_at_call 171; refine (HT2.out _).mono ?_; clear HT2; rintro e w2 ⟨rfl, h2⟩)
        go_roundw
        case rel =>
          obtain ⟨n1, n2, n3⟩ := HR.out
          rw [if_pos HI.out] at n3
          exact ⟨⟨_, _, _, rfl, rfl, rfl, n1, by have := HE.out.2.1; unfold halfN; omega, n2, n3, (HE.out.2.2.2.2.trans (h1.mono HE.out.2.2.2.2.size)).trans (h2.mono (Nat.le_trans HE.out.2.2.2.2.size h1.size))⟩⟩
        case measure => have := HNN.out; simp only [intOf, halfN]; omega
      · have hA : andN n = 0 := by unfold andN; omega
        have HI := Lib.hid hbit
        clear hbit
        have HT2 := Lib.hid (HTM.out a' a' HE.out.1 HE.out.1)
        go_wp2_with (go_at_call 171; refine (HT2.out _).mono ?_; clear HT2; rintro e w2 ⟨rfl, h2⟩)
        go_roundw
        case rel =>
          obtain ⟨n1, n2, n3⟩ := HR.out
          rw [if_neg HI.out] at n3
          exact ⟨⟨_, _, _, rfl, rfl, rfl, n1, by have := HE.out.2.1; unfold halfN; omega, HE.out.2.2.1, n3, HE.out.2.2.2.2.trans (h2.mono HE.out.2.2.2.2.size)⟩⟩
        case measure => have := HNN.out; simp only [intOf, halfN]; omega
theorem rvalid_any (m : Nat) (hm : isF m) (a : Int) (w : World) : Calls Tryz.prog 97 #[.int .i64 (m : Int), .int .i64 a] w fun e w' => e = .returned (.bool (elB (m : Int) a)) ∧ Below w.heap.size w w' := by
  have HPL := Lib.hid (rpoly_any (m : Int) w)
  rw [modI_nat hm] at HPL
  have hm61 : m ≤ 61 := by rcases hm with rfl | rfl <;> omega
  have hP0 : nzN (modP m) = true := by rcases hm with rfl | rfl <;> rfl
  have HE := Lib.hid (show elB (m : Int) a = (decide (0 ≤ a) && decide (a < ((powN m : Nat) : Int))) by
    unfold elB powN
    rw [Int.toNat_natCast]
    congr 2)
  generalize modP m = P at *
  by_cases h0 : 0 ≤ a
  · have d0 : decide (0 ≤ a) = true := decide_eq_true h0
    rw [d0] at HE
    clear h0
    go_enter Tryz.func97, Tryz.ntmps97
    go_wp2_with (go_at_call 124; refine HPL.out.mono ?_; rintro e w1 ⟨rfl, h1⟩)
    go_ret
    exact ⟨by rw [HE.out, Bool.true_and]; rfl, h1⟩
  · have d0 : decide (0 ≤ a) = false := decide_eq_false h0
    rw [d0] at HE
    clear h0
    go_enter Tryz.func97, Tryz.ntmps97
    go_wp2_with (go_at_call 124; refine HPL.out.mono ?_; rintro e w1 ⟨rfl, h1⟩)
    go_ret
    exact ⟨by rw [HE.out, Bool.false_and]; rfl, h1⟩
set_option maxRecDepth 20000 in
theorem rmul_any (m : Nat) (hm : isF m) (a b : Nat) (ha : a < 2 ^ m) (hb : b < 2 ^ m) (w : World) :
    Calls Tryz.prog 169 #[.int .i64 (m : Int), .int .i64 (a : Int), .int .i64 (b : Int)] w fun e w' => e = .returned (.tuple #[.int .i64 ((mulC m a b : Nat) : Int), .int .i64 0]) ∧ Below w.heap.size w w' := by
  have el : ∀ x : Nat, x < 2 ^ m → elB (m : Int) (x : Int) = true := fun x hx => by
    have := allB_nat hm (L := [x]) (by intro y hy; simp at hy; rcases hy with rfl; exact hx)
    unfold allB at this
    simp only [List.map_cons, List.map_nil, List.all_cons, List.all_nil, Bool.and_true, Bool.and_eq_true] at this
    exact this.2
  have H1 := Lib.hid (fun W => rvalid_any m hm (a : Int) W)
  have H2 := Lib.hid (fun W => rvalid_any m hm (b : Int) W)
  rw [el a ha] at H1
  rw [el b hb] at H2
  have HP := Lib.hid (fun W => rtimes_any m hm a b ha hb W)
  clear ha hb hm el
  go_enter Tryz.func169, Tryz.ntmps169
  go_wp2_with first
    | (go_at_call 97; refine (H1.out _).mono ?_; clear H1; rintro e w1 ⟨rfl, h1⟩)
    | (go_at_call 97; refine (H2.out _).mono ?_; clear H2; rintro e w2 ⟨rfl, h2⟩)
    | (go_at_call 171; refine (HP.out _).mono ?_; rintro e w3 ⟨rfl, h3⟩)
  go_ret2
  exact ⟨rfl, (h1.trans (h2.mono h1.size)).trans (h3.mono (Nat.le_trans h1.size h2.size))⟩
set_option maxRecDepth 20000 in
theorem rinv_any (m : Nat) (hm : isF m) (a : Nat) (ha : a < 2 ^ m) (h0 : a ≠ 0) (w : World) :
    Calls Tryz.prog 168 #[.int .i64 (m : Int), .int .i64 (a : Int)] w fun e w' => e = .returned (.tuple #[.int .i64 ((invC m a : Nat) : Int), .int .i64 0]) ∧ Below w.heap.size w w' := by
  have el : elB (m : Int) (a : Int) = true := by
    have := allB_nat hm (L := [a]) (by intro y hy; simp at hy; rcases hy with rfl; exact ha)
    unfold allB at this
    simp only [List.map_cons, List.map_nil, List.all_cons, List.all_nil, Bool.and_true, Bool.and_eq_true] at this
    exact this.2
  have H1 := Lib.hid (fun W => rvalid_any m hm (a : Int) W)
  rw [el] at H1
  have hp : powN m ≤ 65536 := by unfold powN; rcases hm with rfl | rfl <;> decide
  have hp2 : 2 ≤ powN m := by unfold powN; rcases hm with rfl | rfl <;> decide
  have HP := Lib.hid (fun W => rpower_any m hm a ha (powN m - 2) (by omega) W)
  have HI := Lib.hid (show invC m a = pw (mulC m) a (powN m - 2) from inv_pw (opsC hm) ha h0)
  have hw : IntKind.i64.wrap (((powN m : Nat) : Int) - 2) = ((powN m - 2 : Nat) : Int) := by rw [IntWalk.i64_in _ (by omega)]; omega
  have hz : ((a : Int) == 0) = false := by simpa using h0
  have hm61 : m ≤ 61 := by rcases hm with rfl | rfl <;> omega
  generalize powN m - 2 = N at *
  clear ha hm h0 el hp hp2
  go_enter Tryz.func168, Tryz.ntmps168
  go_wp2_with first
    | (go_at_call 97; refine (H1.out _).mono ?_; rintro e w1 ⟨rfl, h1⟩)
    | (go_at_call 170; refine (HP.out _).mono ?_; rintro e w2 ⟨rfl, h2⟩)
  go_ret2
  exact ⟨by rw [HI.out]; rfl, h1.trans (h2.mono h1.size)⟩
end Go.Proofs.YteikbikopgabjaaGreatDoor
namespace Go.Proofs.YteikbikopgabjaaGreatDoor
open Go.RowKit Go.GF
set_option maxRecDepth 20000 in
theorem r8times_any (m : Nat) (hm : isF m) (a b : Nat) (ha : a < 2 ^ m) (hb : b < 2 ^ m) (w : World) :
    Calls Tryz.prog 161 #[.int .i64 (m : Int), .int .i64 (a : Int), .int .i64 (b : Int)] w fun e w' => e = .returned (.int .i64 ((mulC m a b : Nat) : Int)) ∧ Below w.heap.size w w' := by
  have H := Lib.hid (fun W => rmul_any m hm a b ha hb W)
  clear ha hb hm
  go_enter Tryz.func161, Tryz.ntmps161
  go_wp2_with (go_at_call 169; refine (H.out _).mono ?_; rintro e w1 ⟨rfl, h1⟩)
  go_ret
  exact ⟨rfl, h1⟩
set_option maxRecDepth 20000 in
theorem r8inverse_any (m : Nat) (hm : isF m) (a : Nat) (ha : a < 2 ^ m) (h0 : a ≠ 0) (w : World) :
    Calls Tryz.prog 160 #[.int .i64 (m : Int), .int .i64 (a : Int)] w fun e w' => e = .returned (.int .i64 ((invC m a : Nat) : Int)) ∧ Below w.heap.size w w' := by
  have H := Lib.hid (fun W => rinv_any m hm a ha h0 W)
  clear ha hm h0
  go_enter Tryz.func160, Tryz.ntmps160
  go_wp2_with (go_at_call 168; refine (H.out _).mono ?_; rintro e w1 ⟨rfl, h1⟩)
  go_ret
  exact ⟨rfl, h1⟩
end Go.Proofs.YteikbikopgabjaaGreatDoor
