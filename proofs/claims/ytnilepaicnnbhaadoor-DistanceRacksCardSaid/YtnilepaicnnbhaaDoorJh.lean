/- package matrix: Valid, zero. -/
import Derived.Test.YtnilepaicnnbhaaDoorJg
namespace Go.GF
open Go Go.RowKit
def powN (s : Nat) : Nat := 2 ^ s
theorem b_1shl (t : TypeId) (yk : IntKind) (s : Nat) (hs : s ≤ 61) : binOp .shl t (.int .i64 1) (.int yk (s : Int)) = pure (.int .i64 ((powN s : Nat) : Int)) := by
  have h : shlN 1 s = powN s := by unfold shlN powN; rw [Nat.shiftLeft_eq, Nat.one_mul]
  rw [← h]
  refine b_shl t yk 1 s ?_ (by omega)
  rw [h]; unfold powN
  exact Nat.lt_of_le_of_lt (Nat.pow_le_pow_right (by omega) hs) (by decide)
/-- The elements of a matrix, in a row. -/
def cellsL (R C : Nat) (M : Mat) : List Int := (List.range (R * C)).map fun p => ((M (p / C) (p % C) : Nat) : Int)
theorem cellsL_len (R C : Nat) (M : Mat) : (cellsL R C M).length = R * C := by unfold cellsL; simp
theorem cellsL_at {R C : Nat} {M : Mat} {p : Nat} (h : p < R * C) : (cellsL R C M)[p]? = some ((M (p / C) (p % C) : Nat) : Int) := by
  unfold cellsL; rw [List.getElem?_map, List.getElem?_range h]; rfl
theorem div_lt {R C p : Nat} (h : p < R * C) : p / C < R ∧ p % C < C := by
  have hC : 0 < C := by
    rcases Nat.eq_zero_or_pos C with h0 | h0
    · subst h0; omega
    · exact h0
  exact ⟨(Nat.div_lt_iff_lt_mul hC).2 h, Nat.mod_lt _ hC⟩
theorem MatB.row {w : World} {b R C cap : Nat} {M : Mat} (h : MatB w b R C M) (h1 : R * C ≤ cap) (h2 : cap ≤ maxLen) : RowI w (.slice (some ⟨b, 0, none⟩) (R * C) cap) (intsV (cellsL R C M)) := by
  refine ⟨some ⟨b, 0, none⟩, cap, by rw [intsV_len, cellsL_len], by rw [intsV_len, cellsL_len]; exact h1, h2, fun _ => ⟨b, 0, rfl, h.lt, fun j u hu => ?_⟩⟩
  have hj : j < R * C := by
    rcases Nat.lt_or_ge j (R * C) with h | h
    · exact h
    · rw [List.getElem?_eq_none (by rw [intsV_len, cellsL_len]; exact h)] at hu; cases hu
  rw [intsV_at (cellsL_at hj)] at hu
  cases hu
  obtain ⟨a1, a2⟩ := div_lt hj
  have := h.cell a1 a2
  rw [show j / C * C + j % C = j from Nat.div_add_mod' j C] at this
  rw [Nat.zero_add]; exact this
end Go.GF
namespace Go.Proofs.YtnilepaicnnbhaaDoor
open Go.RowKit Go.GF Go.Sl
attribute [local go_sem high] b_shl b_shl1 b_shr b_shr1 b_xor b_and1 b_nz b_n1 b_1shl

set_option maxRecDepth 20000 in
theorem valid1_any (m : Nat) (hm : isF m) (x : Nat) (hx : x < 2 ^ m) (b : Nat) (w : World) (hc : w.cell? ⟨b, 0, none⟩ = some (.int .i64 (m : Int))) :
    Calls Tryd.prog 68 #[.int .i64 (x : Int), .pointer (some ⟨b, 0, none⟩)] w fun e w' => e = .returned (.bool false) ∧ Below w.heap.size w w' := by
  have hm61 : m ≤ 61 := by rcases hm with rfl | rfl <;> omega
  have h1 : decide ((x : Int) < 0) = false := decide_eq_false (by omega)
  have h2 : decide (powN m ≤ x) = false := decide_eq_false (by unfold powN; omega)
  clear hx hm
  go_enter Tryd.func68, Tryd.ntmps68
  go_wp2
  go_ret
  exact ⟨rfl, Below.refl _ _⟩
theorem valid1_run (args : Array Value) (w : World) : (callFunc 68 args).run Tryd.prog w = .ok (.enter 68 args) w := by kernel_rfl
theorem valid_con (m : Nat) (hm : isF m) (R C cap : Nat) (M : Mat) (hB : Bnd (2 ^ m) R C M) (b q : Nat) (w : World) (h1 : R * C ≤ cap) (h2 : cap ≤ maxLen) (hM : MatB w b R C M) (hc : ∀ W', Below w.heap.size w W' → W'.cell? ⟨q, 0, none⟩ = some (.int .i64 (m : Int))) :
    Calls Tryd.prog 67 #[.slice (some ⟨b, 0, none⟩) (R * C) cap, .func (.func 68) #[] #[.pointer (some ⟨q, 0, none⟩)]] w fun e w' => e = .returned (.bool false) ∧ Below w.heap.size w w' := by
  refine (containsf_any _ (cellsL R C M) 68 #[.pointer (some ⟨q, 0, none⟩)] (fun _ => false) w valid1_run (hM.row h1 h2) ?_).mono ?_
  · intro x hx W hb
    unfold cellsL at hx
    obtain ⟨p, hp, rfl⟩ := List.mem_map.1 hx
    obtain ⟨a1, a2⟩ := div_lt (List.mem_range.1 hp)
    have h := valid1_any m hm _ (hB _ a1 _ a2) q W (hc W hb)
    exact h
  · rintro e w' ⟨rfl, h⟩
    exact ⟨by simp, h⟩
theorem mat_box (w : World) (m : Nat) (x y z : Value) (t : TypeId) : ∀ W', Below (w.alloc (.cells #[.int .i64 (m : Int), x, y, z] t)).heap.size (w.alloc (.cells #[.int .i64 (m : Int), x, y, z] t)) W' → W'.cell? ⟨w.heap.size, 0, none⟩ = some (.int .i64 (m : Int)) := by
  intro W h
  rw [h.cell (p := ⟨w.heap.size, 0, none⟩) (by simp)]
  unfold World.cell?
  rw [show (w.alloc (.cells #[.int .i64 (m : Int), x, y, z] t)).heap[w.heap.size]? = _ from World.alloc_heap_new w _]; rfl

set_option maxRecDepth 20000 in
set_option maxHeartbeats 1000000 in
theorem mvalid_any (m : Nat) (hm : isF m) (R C b cap : Nat) (hR : R ≤ 32) (hC : C ≤ 32) (hcap : R * C ≤ cap) (hcm : cap ≤ maxLen) (M : Mat) (hB : Bnd (2 ^ m) R C M) (w : World) (hM : MatB w b R C M) :
    Calls Tryd.prog 49 #[.agg (matV m R C b cap)] w fun e w' => e = .returned (.bool true) ∧ Below w.heap.size w w' := by
  have HC := Lib.hid (fun t => (valid_con m hm R C cap M hB b w.heap.size (w.alloc (.cells #[.int .i64 (m : Int), .int .i64 (R : Int), .int .i64 (C : Int), .slice (some ⟨b, 0, none⟩) (R * C) cap] t)) hcap hcm (hM.below (al_below w _)) (mat_box w m _ _ _ t)).mono
    (fun e w' h => show e = .returned (.bool false) ∧ Below w.heap.size w w' from ⟨h.1, (al_below w _).trans (h.2.mono (al_below w _).size)⟩))
  have hm1 : decide ((R : Int) < 0) = false := decide_eq_false (by omega)
  have hm2 : decide ((C : Int) < 0) = false := decide_eq_false (by omega)
  have hm3 : decide (32 < (R : Int)) = false := decide_eq_false (by omega)
  have hm4 : decide (32 < (C : Int)) = false := decide_eq_false (by omega)
  have h4 : R * C ≤ 32 * 32 := Nat.mul_le_mul hR hC
  have hw1 : IntKind.i64.wrap ((R : Int) * (C : Int)) = ((R * C : Nat) : Int) := by
    rw [show (R : Int) * (C : Int) = ((R * C : Nat) : Int) by simp]; exact wrap_nat (by omega)
  unfold matV
  generalize R * C = N at *
  clear hB hM h4 hcap hcm hR hC
  have hmx : (((m : Int) != 8) = false) ∨ (((m : Int) != 8) = true ∧ ((m : Int) != 16) = false) := by rcases hm with rfl | rfl; exact .inl rfl; exact .inr ⟨rfl, rfl⟩
  clear hm
  have hrc : (C < R ∧ ¬ R < C) ∨ (¬ C < R ∧ R < C) ∨ (¬ C < R ∧ ¬ R < C) := by omega
  rcases hmx with f8 | ⟨f8, f16⟩
  · rcases hrc with ⟨q1, q2⟩ | ⟨q1, q2⟩ | ⟨q1, q2⟩
    · go_enter Tryd.func49, Tryd.ntmps49
      go_wp2_with (go_at_call 67; refine (HC.out _).mono ?_; rintro e w1 ⟨rfl, h1⟩)
      all_goals
        go_ret
        exact ⟨rfl, h1⟩
    · go_enter Tryd.func49, Tryd.ntmps49
      go_wp2_with (go_at_call 67; refine (HC.out _).mono ?_; rintro e w1 ⟨rfl, h1⟩)
      all_goals
        go_ret
        exact ⟨rfl, h1⟩
    · go_enter Tryd.func49, Tryd.ntmps49
      go_wp2_with (go_at_call 67; refine (HC.out _).mono ?_; rintro e w1 ⟨rfl, h1⟩)
      all_goals
        go_ret
        exact ⟨rfl, h1⟩
  · rcases hrc with ⟨q1, q2⟩ | ⟨q1, q2⟩ | ⟨q1, q2⟩
    · go_enter Tryd.func49, Tryd.ntmps49
      go_wp2_with (go_at_call 67; refine (HC.out _).mono ?_; rintro e w1 ⟨rfl, h1⟩)
      all_goals
        go_ret
        exact ⟨rfl, h1⟩
    · go_enter Tryd.func49, Tryd.ntmps49
      go_wp2_with (go_at_call 67; refine (HC.out _).mono ?_; rintro e w1 ⟨rfl, h1⟩)
      all_goals
        go_ret
        exact ⟨rfl, h1⟩
    · go_enter Tryd.func49, Tryd.ntmps49
      go_wp2_with (go_at_call 67; refine (HC.out _).mono ?_; rintro e w1 ⟨rfl, h1⟩)
      all_goals
        go_ret
        exact ⟨rfl, h1⟩
end Go.Proofs.YtnilepaicnnbhaaDoor
