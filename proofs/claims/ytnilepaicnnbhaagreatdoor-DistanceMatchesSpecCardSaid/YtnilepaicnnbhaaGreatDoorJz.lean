/- What codelang.Check says of a code; distance.valid. -/
import Derived.Test.YtnilepaicnnbhaaGreatDoorJy
namespace Go.GF
open Go Go.RowKit
theorem mn_min (r : List Int) : ∀ n, n < r.length → (0 ≤ mnK min r n ↔ ∀ i x, i ≤ n → r[i]? = some x → 0 ≤ x)
  | 0, h => by
    obtain ⟨x0, hx⟩ : ∃ x, r[0]? = some x := ⟨_, List.getElem?_eq_getElem h⟩
    unfold mnK
    rw [hx]
    constructor
    · intro h0 i x hi hxi
      obtain rfl : i = 0 := by omega
      rw [hx] at hxi; cases hxi; exact h0
    · intro h0; exact h0 0 x0 (Nat.le_refl _) hx
  | n + 1, h => by
    have ih := mn_min r n (by omega)
    obtain ⟨x1, hx⟩ : ∃ x, r[n + 1]? = some x := ⟨_, List.getElem?_eq_getElem h⟩
    show 0 ≤ min (mnK min r n) ((r[n + 1]?).getD 0) ↔ _
    rw [hx, Option.getD_some, Int.le_min, ih]
    constructor
    · rintro ⟨h1, h2⟩ i x hi hxi
      rcases Nat.lt_or_ge n i with hlt | hge
      · obtain rfl : i = n + 1 := by omega
        rw [hx] at hxi; cases hxi; exact h2
      · exact h1 i x hge hxi
    · intro h0
      exact ⟨fun i x hi hxi => h0 i x (by omega) hxi, h0 (n + 1) x1 (Nat.le_refl _) hx⟩
theorem mn_max (r : List Int) (B : Int) : ∀ n, n < r.length → (mnK max r n ≤ B ↔ ∀ i x, i ≤ n → r[i]? = some x → x ≤ B)
  | 0, h => by
    obtain ⟨x0, hx⟩ : ∃ x, r[0]? = some x := ⟨_, List.getElem?_eq_getElem h⟩
    unfold mnK
    rw [hx]
    constructor
    · intro h0 i x hi hxi
      obtain rfl : i = 0 := by omega
      rw [hx] at hxi; cases hxi; exact h0
    · intro h0; exact h0 0 x0 (Nat.le_refl _) hx
  | n + 1, h => by
    have ih := mn_max r B n (by omega)
    obtain ⟨x1, hx⟩ : ∃ x, r[n + 1]? = some x := ⟨_, List.getElem?_eq_getElem h⟩
    show max (mnK max r n) ((r[n + 1]?).getD 0) ≤ B ↔ _
    rw [hx, Option.getD_some, Int.max_le, ih]
    constructor
    · rintro ⟨h1, h2⟩ i x hi hxi
      rcases Nat.lt_or_ge n i with hlt | hge
      · obtain rfl : i = n + 1 := by omega
        rw [hx] at hxi; cases hxi; exact h2
      · exact h1 i x hge hxi
    · intro h0
      exact ⟨fun i x hi hxi => h0 i x (by omega) hxi, h0 (n + 1) x1 (Nat.le_refl _) hx⟩
theorem mem_of_le {r : List Int} {p : Int → Prop} (h0 : 0 < r.length) : (∀ i x, i ≤ r.length - 1 → r[i]? = some x → p x) ↔ ∀ x ∈ r, p x := by
  constructor
  · intro h x hx
    obtain ⟨i, hi⟩ := List.mem_iff_getElem?.1 hx
    have := (List.getElem?_eq_some_iff.1 hi).1
    exact h i x (by omega) hi
  · intro h i x _ hi; exact h x (List.mem_of_getElem? hi)
theorem shr_zero {a s : Nat} : shrN a s = 0 ↔ a < 2 ^ s := by
  unfold shrN
  rw [Nat.shiftRight_eq_div_pow, Nat.div_eq_zero_iff]
  have : 0 < 2 ^ s := Nat.two_pow_pos s
  omega
/-- What Check asks of a row. -/
theorem rowC_iff {m : Nat} {k : Int} (hk : 1 ≤ k) (r : List Int) : rowC (m : Int) k r = true ↔ (r.length : Int) = k ∧ (∀ x ∈ r, 0 ≤ x ∧ x < ((2 ^ m : Nat) : Int)) ∧ ∃ x ∈ r, x ≠ 0 := by
  unfold rowC
  by_cases hl : (r.length : Int) = k
  · have h0 : 0 < r.length := by omega
    have hlt : r.length - 1 < r.length := by omega
    have h1 := mn_min r _ hlt
    rw [mem_of_le (p := fun x => 0 ≤ x) h0] at h1
    have h2 := fun B => mn_max r B _ hlt
    simp only [mem_of_le (p := fun x => x ≤ _) h0] at h2
    rw [decide_eq_true hl]
    simp only [Bool.true_and, Bool.and_eq_true, decide_eq_true_eq, Int.toNat_natCast, shr_zero]
    rw [h1]
    constructor
    · rintro ⟨a, b, c⟩
      refine ⟨hl, fun x hx => ⟨a x hx, ?_⟩, ?_⟩
      · have := (h2 (mnK max r (r.length - 1))).1 (Int.le_refl _) x hx
        omega
      · refine Classical.byContradiction fun hn => ?_
        have : mnK max r (r.length - 1) ≤ 0 := (h2 0).2 fun x hx => by
          have : x = 0 := Classical.byContradiction fun h => hn ⟨x, hx, h⟩
          omega
        omega
    · rintro ⟨-, a, x, hx, hne⟩
      refine ⟨fun x hx => (a x hx).1, ?_, ?_⟩
      · have h3 := (h2 (mnK max r (r.length - 1))).1 (Int.le_refl _) x hx
        have := (a x hx).1
        omega
      · have h3 : mnK max r (r.length - 1) ≤ ((2 ^ m : Nat) : Int) - 1 := (h2 _).2 fun x hx => by have := (a x hx).2; omega
        have := Nat.two_pow_pos m
        omega
  · rw [decide_eq_false hl]
    simp [hl]
/-- The code of these values. -/
def codeM (f k : Int) (L : List (List Int)) : CodeM := ⟨f.toNat, k.toNat, L.map fun r => r.map Int.toNat⟩
theorem codeM_n (f k : Int) (L : List (List Int)) : (codeM f k L).n = k.toNat + L.length := by unfold codeM CodeM.n; simp
theorem natsI_toNat {r : List Int} (h : ∀ x ∈ r, 0 ≤ x) : natsI (r.map Int.toNat) = r := by
  unfold natsI
  rw [List.map_map]
  conv => rhs; rw [← List.map_id r]
  refine List.map_congr_left fun x hx => ?_
  have := h x hx
  show ((x.toNat : Nat) : Int) = x
  omega
structure CkOk (nm : ByteArray) (f k : Int) (L : List (List Int)) (dom : Int) : Prop where
  f_ : ∃ m, isF m ∧ f = (m : Int)
  k_ : 1 ≤ k ∧ k ≤ 31
  l_ : 0 < L.length ∧ k + (L.length : Int) ≤ 32
  r_ : ∀ r ∈ L, rowC f k r = true
theorem ck_ok {nm : ByteArray} {f k : Int} {L : List (List Int)} {dom : Int} (h : checkB nm f k L dom = true) : CkOk nm f k L dom := by
  unfold checkB at h
  simp only [Bool.and_eq_true, decide_eq_true_eq, Bool.or_eq_true, beq_iff_eq, List.all_eq_true] at h
  obtain ⟨-, -, hf, h1, h31, h0, hw, hr, -, -⟩ := h
  refine ⟨?_, ⟨h1, h31⟩, ⟨by omega, hw⟩, hr⟩
  rcases hf with rfl | rfl
  · exact ⟨8, .inl rfl, rfl⟩
  · exact ⟨16, .inr rfl, rfl⟩
theorem code_at {nm : ByteArray} {f k : Int} {pv : Value} {L : List (List Int)} {dom : Int} {w : World} (h : checkB nm f k L dom = true) (hp : RowsI w pv L) : CodeAt w (codeV nm f k pv dom) (codeM f k L) ∧ ((codeM f k L).n : Int) = k + (L.length : Int) := by
  obtain ⟨⟨m, hm, rfl⟩, ⟨h1, h31⟩, ⟨h0, hw⟩, hr⟩ := ck_ok h
  have hrow := fun r hr' => (rowC_iff h1 r).1 (hr r hr')
  have hpar : (codeM (m : Int) k L).par.map natsI = L := by
    unfold codeM
    rw [List.map_map]
    conv => rhs; rw [← List.map_id L]
    exact List.map_congr_left fun r hr' => natsI_toNat fun x hx => ((hrow r hr').2.1 x hx).1
  have hkn : ((codeM (m : Int) k L).k : Int) = k := by show ((k.toNat : Nat) : Int) = k; omega
  have hmn : (codeM (m : Int) k L).m = m := Int.toNat_natCast m
  have hn : ((codeM (m : Int) k L).n : Int) = k + (L.length : Int) := by rw [codeM_n]; omega
  refine ⟨⟨⟨nm, pv, dom, by rw [hkn, hmn], by rw [hpar]; exact hp⟩, ⟨by rw [hmn]; exact hm, by omega, ?_⟩, by omega, ?_⟩, hn⟩
  · intro r hr'
    obtain ⟨r', hr1, rfl⟩ := List.mem_map.1 hr'
    obtain ⟨a, b, -⟩ := hrow r' hr1
    refine ⟨by rw [List.length_map]; omega, fun x hx => ?_⟩
    obtain ⟨x', hx', rfl⟩ := List.mem_map.1 hx
    have := b x' hx'
    rw [hmn]; omega
  · rw [hpar, hkn, hmn]
    have hmod : (modI (m : Int) != 0) = true := by rcases hm with rfl | rfl <;> rfl
    have hel : ∀ x : Int, 0 ≤ x → x < ((2 ^ m : Nat) : Int) → allB (m : Int) [x] = true := by
      intro x hx0 hx1
      unfold allB elB
      rw [hmod]
      simp only [List.all_cons, List.all_nil, Bool.and_true, Bool.true_and, Int.toNat_natCast, Bool.and_eq_true, decide_eq_true_eq]
      refine ⟨hx0, ?_⟩
      rw [Int.natCast_pow] at hx1
      exact hx1
    unfold validE
    rw [hel 0 (Int.le_refl _) (by have := Nat.two_pow_pos m; omega), decide_eq_true h1, decide_eq_true (show L.length ≤ 32 by omega), decide_eq_true (show k ≤ 32 - (L.length : Int) by omega)]
    simp only [Bool.true_and, List.all_eq_true]
    intro r hr'
    obtain ⟨a, b, x, hx, hne⟩ := hrow r hr'
    unfold rowE
    rw [decide_eq_true a]
    simp only [Bool.true_and, Bool.and_eq_true, List.all_eq_true, Bool.not_eq_true', List.all_eq_false]
    exact ⟨fun y hy => hel y (b y hy).1 (b y hy).2, x, hx, by simpa using hne⟩
end Go.GF
namespace Go.Proofs.YtnilepaicnnbhaaGreatDoor
open Go.RowKit Go.GF Go.Sl

set_option maxRecDepth 20000 in
set_option maxHeartbeats 1000000 in
theorem valid_any (nm : ByteArray) (hnm : nm.size ≤ maxLen) (f k : Int) (pv : Value) (dom : Int) (L : List (List Int)) (hl : L.length ≤ 100000) (hk63 : -9000000000000000000 ≤ k ∧ k ≤ 9000000000000000000) (n : Int) (w : World) (hT : TabF w) (hp : RowsI w pv L) :
    Calls Tryz.prog 20 #[.agg (codeV nm f k pv dom), .int .i64 n] w fun e w' => e = .returned (.bool (checkB nm f k L dom && n == k + (L.length : Int))) ∧ Below w.heap.size w w' := by
  have HC := Lib.hid (fun W (hb : Below w.heap.size w W) => check_any nm hnm f k pv dom L hl hk63 W (hp.below hb))
  have HCB := Lib.hid (fun t w1 h => code_box w w1 (codeV nm f k pv dom) t h)
  have HW := Lib.hid (fun W (hb : Below w.heap.size w W) (h : checkB nm f k L dom = true) => width_any _ _ W (hT.below hb) (code_at h (hp.below hb)).1)
  have HN := Lib.hid (fun (h : checkB nm f k L dom = true) => (code_at h hp).2)
  clear hp hT hnm hl hk63
  generalize (codeM f k L).n = N at *
  unfold codeV at *
  cases hck : checkB nm f k L dom with
  | false =>
    go_enter Tryz.func20, Tryz.ntmps20
    go_wp2_with (go_at_call 16; refine (HC.out _ (al_below w _)).mono ?_; rintro e w1 ⟨⟨z, rfl, hz⟩, h1⟩; rw [hck] at hz)
    go_ret
    exact ⟨rfl, (HCB.out _ w1 h1).2⟩
  | true =>
    have hnn := HN.out hck
    rw [← hnn]
    have HK := Lib.hid hck
    clear hnn hck
    go_enter Tryz.func20, Tryz.ntmps20
    go_wp2_with first
      | (go_at_call 16; refine (HC.out _ (al_below w _)).mono ?_; rintro e w1 ⟨⟨z, rfl, hz⟩, h1⟩; rw [HK.out] at hz; obtain ⟨hg, hb⟩ := HCB.out _ w1 h1; obtain ⟨c0, c1, c2, c3, c4⟩ := Box.code hg)
      | (go_at_call 18; refine (HW.out w1 hb HK.out).mono ?_; rintro e w2 ⟨rfl, h2⟩)
    go_ret
    exact ⟨rfl, hb.trans (h2.mono hb.size)⟩
end Go.Proofs.YtnilepaicnnbhaaGreatDoor
