/- package field: degree, reduce, inverse. -/
import Derived.Test.YtnilepaicnnbhaaDoorJb
namespace Go.GF
open Go Go.RowKit
def degI (a : Nat) : Int := (len a : Int) - 1
def n1N (a : Nat) : Bool := decide (a ≠ 1)
theorem b_n1 (t : TypeId) (a : Nat) : binOp .neq t (.int .i64 (a : Int)) (.int .i64 1) = pure (.bool (n1N a)) := by
  rw [binOp_neq]
  unfold n1N
  congr 2
  by_cases h : a = 1
  · subst h; rfl
  · rw [decide_eq_true h]
    have : (a : Int) ≠ 1 := by omega
    simpa using this
theorem nz_true {a : Nat} (h : a ≠ 0) : nzN a = true := decide_eq_true h
theorem nz_false : nzN 0 = false := rfl
end Go.GF
namespace Go.Proofs.YtnilepaicnnbhaaDoor
open Go.RowKit Go.GF
attribute [local go_sem high] b_shl b_shl1 b_shr b_shr1 b_xor b_and1 b_nz b_n1

structure DgSt (w : World) (a : Nat) (x d : Value) (wr : World) : Prop where
  st : ∃ (k : Nat) (e : Int), k < 4611686018427387904 ∧ -1 ≤ e ∧ e + len k = degI a ∧ x = .int .i64 (k : Int) ∧ d = .int .i64 e ∧ w = wr
set_option maxRecDepth 20000 in
set_option maxHeartbeats 1000000 in
theorem degree_any (a : Nat) (ha : a < 4611686018427387904) (w : World) :
    Calls Tryd.prog 101 #[.int .i64 (a : Int)] w fun e w' => e = .returned (.int .i64 (degI a)) ∧ w = w' := by
  have hda : degI a ≤ 62 := by
    unfold degI
    have := (len_le (n := a) (k := 62)).2 (Nat.lt_of_lt_of_le ha (by decide))
    omega
  go_enter Tryd.func101, Tryd.ntmps101
  go_wp2
  go_loopw [0, 3] (fun x d wr => DgSt w a x d wr) (fun x _ _ => len (intOf x).toNat)
  case atStart => exact ⟨⟨a, -1, ha, by omega, by unfold degI; omega, rfl, rfl, rfl⟩⟩
  case round =>
    obtain ⟨k, e, hk, he, hs, rfl, rfl, rfl⟩ := hrel.st
    clear hrel
    by_cases hz : k = 0
    · have hn : nzN k = false := by rw [hz]; rfl
      have HS := Lib.hid (show e = degI a by rw [hz, len_zero] at hs; omega)
      clear hs hz hda he
      go_wp2
      go_ret
      exact ⟨by rw [HS.out]; rfl, rfl⟩
    · have hn := nz_true hz
      have hl := len_half hz
      have hw : IntKind.i64.wrap (e + 1) = e + 1 := IntWalk.i64_in _ (by omega)
      have hsh : shrN k 1 = k / 2 := by unfold shrN; rw [Nat.shiftRight_eq_div_pow]
      have HF := Lib.hid (show shrN k 1 < 4611686018427387904 ∧ -1 ≤ e + 1 ∧ (e + 1) + len (shrN k 1) = degI a by rw [hsh]; omega)
      have HM := Lib.hid (show len (shrN k 1) < len k by rw [hsh]; omega)
      clear hs hl hz hsh hda he
      go_wp2
      go_roundw
      case rel => exact ⟨⟨shrN k 1, e + 1, HF.out.1, HF.out.2.1, HF.out.2.2, rfl, rfl, rfl⟩⟩
      case measure =>
        simp only [intOf, Int.toNat_natCast]
        exact HM.out

structure RdSt (w : World) (m a : Nat) (x d : Value) (wr : World) : Prop where
  st : ∃ k : Nat, k < 2 ^ (m + 2) ∧ red m (modP m) k = red m (modP m) a ∧ x = .int .i64 (k : Int) ∧ d = .int .i64 (degI k) ∧ Below w.heap.size w wr
set_option maxRecDepth 20000 in
set_option maxHeartbeats 2000000 in
theorem reduce_any (m : Nat) (hm : isF m) (a : Nat) (ha : a < 2 ^ (m + 2)) (w : World) (hT : TabF w) :
    Calls Tryd.prog 102 #[.int .i64 (m : Int), .int .i64 (a : Int)] w fun e w' => e = .returned (.int .i64 ((redC m a : Nat) : Int)) ∧ Below w.heap.size w w' := by
  have HMD := Lib.hid (fun W (hb : Below w.heap.size w W) => modulus_any (m : Int) W (hT.below hb))
  rw [modI_nat hm] at HMD
  have hF := fld hm
  have hPl := modP_lt hm
  have hm16 : m ≤ 16 := by rcases hm with rfl | rfl <;> omega
  have HA := Lib.hid ha
  have ha62 := lt62 ha (by omega)
  have HRC := Lib.hid (redC_eq ha)
  clear ha hT
  go_enter Tryd.func102, Tryd.ntmps102
  go_wp2_with (go_at_call 101; refine (degree_any a ha62 w).mono ?_; rintro e w1 ⟨rfl, rfl⟩)
  go_loopw [1, 5] (fun x d wr => RdSt w m a x d wr) (fun x _ _ => len (intOf x).toNat)
  case atStart => exact ⟨⟨a, HA.out, rfl, rfl, rfl, Below.refl _ _⟩⟩
  case round =>
    obtain ⟨k, hk, hr, rfl, rfl, hb⟩ := hrel.st
    clear hrel
    have HB := Lib.hid hb
    by_cases hge : m < len k
    · have hgd : decide ((m : Int) ≤ degI k) = true := decide_eq_true (by unfold degI; omega)
      have hlk : len k ≤ m + 2 := len_le.2 hk
      have hw : IntKind.i64.wrap (degI k - (m : Int)) = ((len k - 1 - m : Nat) : Int) := by
        rw [show degI k - (m : Int) = ((len k - 1 - m : Nat) : Int) by unfold degI; omega]; exact wrap_nat (by omega)
      obtain ⟨h1, h2⟩ := red_step hF hge
      have HM := Lib.hid (HMD.out wr hb)
      have hs62 : len k - 1 - m ≤ 62 := by omega
      have hk62 := lt62 hk (by omega)
      generalize hs : len k - 1 - m = s at *
      have hsh := shl_lt (s := s) (Nat.lt_of_lt_of_le hPl (show 131072 ≤ 2 ^ 17 by decide))
      have hsh62 := lt62 hsh (by omega)
      have HK := Lib.hid (And.intro (show xorN k (shlN (modP m) s) < 2 ^ (m + 2) from len_le.1 (Nat.le_trans (Nat.le_of_lt h2) hlk)) (And.intro (h1.trans hr) h2))
      have hx62 : xorN k (shlN (modP m) s) < 4611686018427387904 := lt62 HK.out.1 (by omega)
      have HD := Lib.hid (fun W => degree_any (xorN k (shlN (modP m) s)) hx62 W)
      clear h1 h2 hr hk hb hsh hs hlk hge
      generalize hP : modP m = P at *
      have HP := Lib.hid hP
      clear hP hF
      go_wp2_with first
        | (go_at_call 92; refine HM.out.mono ?_; rintro e w1 ⟨rfl, h1⟩)
        | (go_at_call 101; refine (HD.out _).mono ?_; rintro e w2 ⟨rfl, rfl⟩)
      go_roundw
      case rel => exact ⟨⟨xorN k (shlN P s), HK.out.1, by rw [HP.out]; exact HK.out.2.1, rfl, rfl, HB.out.trans (h1.mono HB.out.size)⟩⟩
      case measure => simp only [intOf, Int.toNat_natCast]; exact HK.out.2.2
    · have hgd : decide ((m : Int) ≤ degI k) = false := decide_eq_false (by unfold degI; omega)
      have HK := Lib.hid (show k = redC m a by rw [HRC.out, ← hr]; exact (red_small (len_le.1 (by omega))).symm)
      clear hk hr hb hge
      go_wp2
      go_ret
      exact ⟨by rw [HK.out]; rfl, HB.out⟩

structure IvSt (w : World) (m a : Nat) (u v x y : Value) (wr : World) : Prop where
  st : ∃ U V X Y : Nat, EucI m (modP m) a U V X Y ∧ u = .int .i64 (U : Int) ∧ v = .int .i64 (V : Int) ∧ x = .int .i64 (X : Int) ∧ y = .int .i64 (Y : Int) ∧ Below w.heap.size w wr
set_option maxRecDepth 20000 in
set_option maxHeartbeats 4000000 in
theorem inverse_any (m : Nat) (hm : isF m) (a : Nat) (ha : a < 2 ^ m) (h0 : a ≠ 0) (w : World) (hT : TabF w) :
    Calls Tryd.prog 90 #[.int .i64 (m : Int), .int .i64 (a : Int)] w fun e w' => e = .returned (.int .i64 ((invC m a : Nat) : Int)) ∧ Below w.heap.size w w' := by
  have HMD := Lib.hid (modulus_any (m : Int) w hT)
  rw [modI_nat hm] at HMD
  have HRD := Lib.hid (fun x (hx : x < 2 ^ (m + 2)) W (hb : Below w.heap.size w W) => reduce_any m hm x hx W (hT.below hb))
  have hm16 : m ≤ 16 := by rcases hm with rfl | rfl <;> omega
  have HE := Lib.hid (And.intro (fld hm) (And.intro ha (And.intro h0 hm)))
  clear ha h0 hT hm
  go_enter Tryd.func90, Tryd.ntmps90
  go_wp2_with (go_at_call 92; refine HMD.out.mono ?_; rintro e w1 ⟨rfl, h1⟩)
  have HB1 := Lib.hid h1
  clear h1 HMD
  go_loopw [5, 6, 7, 8, 9] (fun u v x y _ wr => IvSt w m a u v x y wr) (fun u v _ _ _ _ => eucM (intOf u).toNat (intOf v).toNat)
  case atStart => exact ⟨⟨a, modP m, 1, 0, EucI.start HE.out.1 HE.out.2.2.1 HE.out.2.1, rfl, rfl, rfl, rfl, HB1.out⟩⟩
  case round =>
    clear HB1
    obtain ⟨U, V, X, Y, hI, rfl, rfl, rfl, rfl, hb⟩ := hrel.st
    clear hrel
    have HB := Lib.hid hb
    have hu62 := lt62 hI.ult (by omega)
    have hv62 := lt62 hI.swap.ult (by omega)
    have hx62 := lt62 hI.xlt (by omega)
    have hy62 := lt62 hI.swap.xlt (by omega)
    by_cases hu : U = 1
    · have hn : n1N U = false := by rw [hu]; rfl
      have HR := Lib.hid (HRD.out X hI.xlt wr hb)
      have HK := Lib.hid (show redC m X = invC m a by
        subst hu
        obtain ⟨hF, ha, h0, hm⟩ := HE.out
        obtain ⟨i1, i2⟩ := invC_ok hm h0 ha
        rw [redC_eq hI.xlt]
        exact inv_unique hF ha (red_lt hF X) i1 (hI.done hF ha) i2)
      clear hI hb hu HRD
      go_wp2_with (go_at_call 102; refine HR.out.mono ?_; rintro e w1 ⟨rfl, h1⟩)
      go_ret
      exact ⟨by rw [HK.out]; rfl, HB.out.trans (h1.mono HB.out.size)⟩
    · have hn : n1N U = true := decide_eq_true hu
      have hlu := hI.lu
      have hlv := hI.lv
      have hlx := hI.lx
      have hly := hI.ly
      by_cases hle : len V ≤ len U
      · have hw : IntKind.i64.wrap (degI U - degI V) = ((len U - len V : Nat) : Int) := by
          rw [show degI U - degI V = ((len U - len V : Nat) : Int) by unfold degI; omega]; exact wrap_nat (by omega)
        obtain ⟨h1, h2⟩ := hI.step hu hle
        have hs62 : len U - len V ≤ 62 := by omega
        have hsu := lt62 (shl_lt (s := len U - len V) hI.swap.ult) (by omega)
        have hsx := lt62 (shl_lt (s := len U - len V) hI.swap.xlt) (by omega)
        generalize len U - len V = s at *
        have hneg : decide ((s : Int) < 0) = false := decide_eq_false (by omega)
        have HK := Lib.hid (And.intro h1 h2)
        clear h1 h2 hI hb hu hlu hlv hlx hly hle
        go_wp2_with first
          | (go_at_call 101; with_reducible refine (degree_any U hu62 _).mono ?_; rintro e w2 ⟨rfl, rfl⟩)
          | (go_at_call 101; with_reducible refine (degree_any V hv62 _).mono ?_; rintro e w2 ⟨rfl, rfl⟩)
        go_roundw
        case rel => exact ⟨⟨xorN U (shlN V s), V, xorN X (shlN Y s), Y, HK.out.1, rfl, rfl, rfl, rfl, HB.out⟩⟩
        case measure => simp only [intOf, Int.toNat_natCast]; exact HK.out.2
      · have hw : IntKind.i64.wrap (degI U - degI V) = -((len V - len U : Nat) : Int) := by
          rw [show degI U - degI V = -((len V - len U : Nat) : Int) by unfold degI; omega]; exact IntWalk.i64_in _ (by omega)
        obtain ⟨h1, h2⟩ := hI.step' hu (by omega)
        have hs62 : len V - len U ≤ 62 := by omega
        have hsu := lt62 (shl_lt (s := len V - len U) hI.ult) (by omega)
        have hsx := lt62 (shl_lt (s := len V - len U) hI.xlt) (by omega)
        obtain ⟨s, hs⟩ : ∃ s, len V - len U = s := ⟨_, rfl⟩
        rw [hs] at hw h1 h2 hs62 hsu hsx
        have hpos : 0 < s := by omega
        have hnn : IntKind.i64.wrap (- -(s : Int)) = (s : Int) := by rw [Int.neg_neg]; exact wrap_nat (by omega)
        have HK := Lib.hid (And.intro h1 h2)
        clear h1 h2 hI hb hu hlu hlv hlx hly hle hs
        go_wp2_with first
          | (go_at_call 101; with_reducible refine (degree_any U hu62 _).mono ?_; rintro e w2 ⟨rfl, rfl⟩)
          | (go_at_call 101; with_reducible refine (degree_any V hv62 _).mono ?_; rintro e w2 ⟨rfl, rfl⟩)
        go_roundw
        case rel => exact ⟨⟨xorN V (shlN U s), U, xorN Y (shlN X s), X, HK.out.1, rfl, rfl, rfl, rfl, HB.out⟩⟩
        case measure => simp only [intOf, Int.toNat_natCast]; exact HK.out.2
end Go.Proofs.YtnilepaicnnbhaaDoor
