/- package field: all, Valid, Mul, Inv; slices.ContainsFunc over a row of integers. -/
import Derived.Test.YtnilepaicnnbhaaDoorJc
namespace Go.GF
open Go Go.RowKit
theorem modI_cases (m : Int) : (modI m = 0 ∧ m ≠ 8 ∧ m ≠ 16) ∨ (∃ k : Nat, isF k ∧ m = (k : Int) ∧ modI m ≠ 0) := by
  by_cases h8 : m = 8
  · exact .inr ⟨8, .inl rfl, h8, by rw [h8]; decide⟩
  · by_cases h16 : m = 16
    · exact .inr ⟨16, .inr rfl, h16, by rw [h16]; decide⟩
    · exact .inl ⟨by unfold modI; rw [if_neg h8, if_neg h16], h8, h16⟩
theorem elB_nat (m : Nat) (n : Nat) : elB (m : Int) (n : Int) = !nzN (shrN n m) := by
  unfold elB nzN shrN
  rw [Nat.shiftRight_eq_div_pow, decide_eq_true (show (0 : Int) ≤ (n : Int) by omega), Bool.true_and]
  have h2 : 0 < 2 ^ m := Nat.pow_pos (by omega)
  have h3 : ((n : Int) < 2 ^ (m : Int).toNat) ↔ n < 2 ^ m := by
    rw [Int.toNat_natCast]
    constructor
    · intro h; exact_mod_cast h
    · intro h; exact_mod_cast h
  by_cases h : n < 2 ^ m
  · rw [decide_eq_true (h3.2 h), Nat.div_eq_of_lt h]; rfl
  · rw [decide_eq_false (fun h' => h (h3.1 h'))]
    have : n / 2 ^ m ≠ 0 := by
      have := Nat.div_pos (Nat.le_of_not_lt h) h2
      omega
    simp [this]
theorem allB_nat {m : Nat} (hm : isF m) {L : List Nat} (h : ∀ x ∈ L, x < 2 ^ m) : allB (m : Int) (L.map fun x : Nat => (x : Int)) = true := by
  unfold allB
  rw [Bool.and_eq_true]
  constructor
  · rcases hm with rfl | rfl <;> decide
  · rw [List.all_eq_true]
    intro x hx
    obtain ⟨y, hy, rfl⟩ := List.mem_map.1 hx
    rw [elB_nat]
    unfold nzN shrN
    rw [Nat.shiftRight_eq_div_pow, Nat.div_eq_of_lt (h y hy)]; rfl
end Go.GF
namespace Go.Proofs.YtnilepaicnnbhaaDoor
open Go.RowKit Go.GF
attribute [local go_sem high] b_shl b_shl1 b_shr b_shr1 b_xor b_and1 b_nz b_n1

set_option maxRecDepth 20000 in
theorem containsf_any (v : Value) (L : List Int) (f : FuncId) (cap : Array Value) (p : Int → Bool) (w : World) (hcf : ∀ args w, (callFunc f args).run Tryd.prog w = .ok (.enter f args) w) (hv : RowI w v (intsV L))
    (hp : ∀ x ∈ L, ∀ W, Below w.heap.size w W → Calls Tryd.prog f (#[.int .i64 x] ++ cap) W fun e W' => e = .returned (.bool (p x)) ∧ Below W.heap.size W W') :
    Calls Tryd.prog 67 #[v, .func (.func f) #[] cap] w fun e w' => e = .returned (.bool (L.any p)) ∧ Below w.heap.size w w' := by
  have H := Lib.hid (ixf_any v L f cap p w hcf hv hp)
  clear hv hp
  go_enter Tryd.func67, Tryd.ntmps67
  go_wp2_with (go_at_call 89; refine H.out.mono ?_; rintro e w1 ⟨⟨k, rfl, hk⟩, h1⟩)
  go_ret
  exact ⟨by rw [← hk]; rfl, h1⟩

set_option maxRecDepth 20000 in
theorem all1_any (m : Nat) (hm : isF m) (x : Int) (b : Nat) (w : World) (hc : w.cell? ⟨b, 0, none⟩ = some (.int .i64 (m : Int))) :
    Calls Tryd.prog 93 #[.int .i64 x, .pointer (some ⟨b, 0, none⟩)] w fun e w' => e = .returned (.bool (!elB (m : Int) x)) ∧ Below w.heap.size w w' := by
  have hm62 : m ≤ 62 := by rcases hm with rfl | rfl <;> omega
  by_cases hx : x < 0
  · have hd : decide (x < 0) = true := decide_eq_true hx
    have hel : elB (m : Int) x = false := by unfold elB; rw [decide_eq_false (by omega), Bool.false_and]
    rw [hel]
    clear hx hel
    go_enter Tryd.func93, Tryd.ntmps93
    go_wp2
    go_ret
    exact ⟨rfl, Below.refl _ _⟩
  · obtain ⟨n, rfl⟩ : ∃ n : Nat, x = (n : Int) := ⟨x.toNat, by omega⟩
    have hd : decide ((n : Int) < 0) = false := decide_eq_false hx
    rw [elB_nat]
    clear hx
    go_enter Tryd.func93, Tryd.ntmps93
    go_wp2
    go_ret
    exact ⟨by simp, Below.refl _ _⟩

theorem all1_run (args : Array Value) (w : World) : (callFunc 93 args).run Tryd.prog w = .ok (.enter 93 args) w := by kernel_rfl
theorem all_con (v : Value) (L : List Int) (k : Nat) (hk : isF k) (b : Nat) (w : World) (hv : RowI w v (intsV L)) (hc : ∀ W', Below w.heap.size w W' → W'.cell? ⟨b, 0, none⟩ = some (.int .i64 (k : Int))) :
    Calls Tryd.prog 67 #[v, .func (.func 93) #[] #[.pointer (some ⟨b, 0, none⟩)]] w fun e w' => e = .returned (.bool (L.any fun x => !elB (k : Int) x)) ∧ Below w.heap.size w w' := by
  refine containsf_any v L 93 #[.pointer (some ⟨b, 0, none⟩)] (fun x => !elB (k : Int) x) w all1_run hv ?_
  intro x _ W hb
  have h := all1_any k hk x b W (hc W hb)
  exact h
theorem all_box (w W : World) (k : Nat) (t : TypeId) (f : Nat × Nat) (h : Below (w.alloc (.cells #[.int .i64 (k : Int)] t f)).heap.size (w.alloc (.cells #[.int .i64 (k : Int)] t f)) W) :
    Below w.heap.size w W ∧ ∀ W', Below W.heap.size W W' → W'.cell? ⟨w.heap.size, 0, none⟩ = some (.int .i64 (k : Int)) := by
  have hs : w.heap.size < (w.alloc (.cells #[.int .i64 (k : Int)] t f)).heap.size := by simp
  have h0 : W.cell? ⟨w.heap.size, 0, none⟩ = some (.int .i64 (k : Int)) := by
    rw [h.cell (p := ⟨w.heap.size, 0, none⟩) hs]
    unfold World.cell?
    rw [show (w.alloc (.cells #[.int .i64 (k : Int)] t f)).heap[w.heap.size]? = _ from World.alloc_heap_new w _]; rfl
  exact ⟨((Below.refl _ w).alloc (Nat.le_refl _) _).trans (h.mono (Nat.le_of_lt hs)), fun W' h' => (h'.cell (p := ⟨w.heap.size, 0, none⟩) (Nat.lt_of_lt_of_le hs h.size)).trans h0⟩
set_option maxRecDepth 20000 in
set_option maxHeartbeats 1000000 in
theorem all_any (m : Int) (v : Value) (L : List Int) (w : World) (hv : RowI w v (intsV L)) (hT : TabF w) :
    Calls Tryd.prog 74 #[.int .i64 m, v] w fun e w' => e = .returned (.bool (allB m L)) ∧ Below w.heap.size w w' := by
  have HM := Lib.hid (fun W (hb : Below w.heap.size w W) => modulus_any m W (hT.below hb))
  have HV := Lib.hid (fun W (hb : Below w.heap.size w W) => hv.below hb)
  obtain ⟨ao, cp, rfl, -, -, -⟩ := hv
  rcases modI_cases m with ⟨h0, -, -⟩ | ⟨k, hk, rfl, hne⟩
  · have ha : allB m L = false := by unfold allB; rw [h0]; rfl
    rw [ha]
    simp only [h0] at HM
    go_enter Tryd.func74, Tryd.ntmps74
    go_wp2_with (go_at_call 92; refine (HM.out _ ((Below.refl _ w).alloc (Nat.le_refl _) _)).mono ?_; rintro e w1 ⟨rfl, h1⟩)
    go_ret
    exact ⟨rfl, ((Below.refl _ w).alloc (Nat.le_refl _) _).trans (h1.mono (by simp))⟩
  · have hne' : (modI (k : Int) != 0) = true := by simpa using hne
    have ha : allB (k : Int) L = !(L.any fun x => !elB (k : Int) x) := by
      unfold allB; rw [hne', Bool.true_and, List.all_eq_not_any_not]
    rw [ha]
    have HC := Lib.hid (fun (t : TypeId) (f : Nat × Nat) W (h : Below (w.alloc (.cells #[.int .i64 (k : Int)] t f)).heap.size (w.alloc (.cells #[.int .i64 (k : Int)] t f)) W) => all_box w W k t f h)
    have hk2 := Lib.hid hk
    clear hk hne hT
    go_enter Tryd.func74, Tryd.ntmps74
    go_wp2_with first
      | (go_at_call 92; refine (HM.out _ ((Below.refl _ w).alloc (Nat.le_refl _) _)).mono ?_; rintro e w1 ⟨rfl, h1⟩; obtain ⟨hb1, hc1⟩ := HC.out _ _ _ h1; clear h1)
      | (go_at_call 67; refine (all_con _ L k hk2.out _ w1 (HV.out w1 hb1) hc1).mono ?_; rintro e w2 ⟨rfl, h2⟩)
    go_ret
    exact ⟨rfl, hb1.trans (h2.mono hb1.size)⟩
end Go.Proofs.YtnilepaicnnbhaaDoor
