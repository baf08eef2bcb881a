/- package field: Valid, Mul, Inv; matrix.times. -/
import Derived.Test.YtnilepaicnnbhaaDoorJd
namespace Go.Proofs.YtnilepaicnnbhaaDoor
open Go.RowKit Go.GF

theorem row_alloc2 (w : World) (t : TypeId) (a b : Int) : RowI (w.alloc (.cells #[.int .i64 a, .int .i64 b] t)) (.slice (some ⟨w.heap.size, 0, none⟩) 2 2) (intsV [a, b]) := RowI.alloc (c := [.int .i64 a, .int .i64 b]) (by unfold maxLen; simp)
theorem row_alloc1 (w : World) (t : TypeId) (a : Int) : RowI (w.alloc (.cells #[.int .i64 a] t)) (.slice (some ⟨w.heap.size, 0, none⟩) 1 1) (intsV [a]) := RowI.alloc (c := [.int .i64 a]) (by unfold maxLen; simp)
theorem al_below (w : World) (o : Obj) : Below w.heap.size w (w.alloc o) := (Below.refl _ w).alloc (Nat.le_refl _) o

/-- all of one integer, of two. -/
theorem all1c (m a : Int) (w : World) (hT : TabF w) (t : TypeId) : Calls Tryd.prog 74 #[.int .i64 m, .slice (some ⟨w.heap.size, 0, none⟩) 1 1] (w.alloc (.cells #[.int .i64 a] t)) fun e w' => e = .returned (.bool (allB m [a])) ∧ Below w.heap.size w w' :=
  (all_any m _ [a] _ (row_alloc1 w t a) (hT.below (al_below w _))).mono fun _ _ ⟨h1, h2⟩ => ⟨h1, (al_below w _).trans (h2.mono (al_below w _).size)⟩
theorem all2c (m a b : Int) (w : World) (hT : TabF w) (t : TypeId) : Calls Tryd.prog 74 #[.int .i64 m, .slice (some ⟨w.heap.size, 0, none⟩) 2 2] (w.alloc (.cells #[.int .i64 a, .int .i64 b] t)) fun e w' => e = .returned (.bool (allB m [a, b])) ∧ Below w.heap.size w w' :=
  (all_any m _ [a, b] _ (row_alloc2 w t a b) (hT.below (al_below w _))).mono fun _ _ ⟨h1, h2⟩ => ⟨h1, (al_below w _).trans (h2.mono (al_below w _).size)⟩

set_option maxRecDepth 20000 in
theorem fvalid_any (m a : Int) (w : World) (hT : TabF w) : Calls Tryd.prog 57 #[.int .i64 m, .int .i64 a] w fun e w' => e = .returned (.bool (allB m [a])) ∧ Below w.heap.size w w' := by
  have H := Lib.hid (fun t => all1c m a w hT t)
  clear hT
  go_enter Tryd.func57, Tryd.ntmps57
  go_wp2_with (go_at_call 74; refine (H.out _).mono ?_; rintro e w1 ⟨rfl, h1⟩)
  go_ret
  exact ⟨rfl, h1⟩

set_option maxRecDepth 20000 in
theorem mul_any (m : Nat) (hm : isF m) (a b : Nat) (ha : a < 2 ^ m) (hb : b < 2 ^ m) (w : World) (hT : TabF w) :
    Calls Tryd.prog 91 #[.int .i64 (m : Int), .int .i64 (a : Int), .int .i64 (b : Int)] w fun e w' => e = .returned (.tuple #[.int .i64 ((mulC m a b : Nat) : Int), .int .i64 0]) ∧ Below w.heap.size w w' := by
  have H := Lib.hid (fun t => all2c m a b w hT t)
  have hal : allB (m : Int) [(a : Int), (b : Int)] = true := allB_nat hm (L := [a, b]) (by intro x hx; simp at hx; rcases hx with rfl | rfl <;> assumption)
  rw [hal] at H
  have HP := Lib.hid (fun W (h : Below w.heap.size w W) => product_any m hm a b ha hb W (hT.below h))
  clear hT hal ha hb hm
  go_enter Tryd.func91, Tryd.ntmps91
  go_wp2_with first
    | (go_at_call 74; refine (H.out _).mono ?_; rintro e w1 ⟨rfl, h1⟩)
    | (go_at_call 103; refine (HP.out w1 h1).mono ?_; rintro e w2 ⟨rfl, h2⟩)
  go_ret2
  exact ⟨rfl, h1.trans (h2.mono h1.size)⟩

set_option maxRecDepth 20000 in
theorem finv_any (m : Nat) (hm : isF m) (a : Nat) (ha : a < 2 ^ m) (h0 : a ≠ 0) (w : World) (hT : TabF w) :
    Calls Tryd.prog 71 #[.int .i64 (m : Int), .int .i64 (a : Int)] w fun e w' => e = .returned (.tuple #[.int .i64 ((invC m a : Nat) : Int), .int .i64 0]) ∧ Below w.heap.size w w' := by
  have H := Lib.hid (fun t => all1c m a w hT t)
  have hal : allB (m : Int) [(a : Int)] = true := allB_nat hm (L := [a]) (by intro x hx; simp at hx; rcases hx with rfl; assumption)
  rw [hal] at H
  have HP := Lib.hid (fun W (h : Below w.heap.size w W) => inverse_any m hm a ha h0 W (hT.below h))
  have hz : ((a : Int) == 0) = false := by simpa using h0
  clear hT hal ha hm h0
  go_enter Tryd.func71, Tryd.ntmps71
  go_wp2_with first
    | (go_at_call 74; refine (H.out _).mono ?_; rintro e w1 ⟨rfl, h1⟩)
    | (go_at_call 90; refine (HP.out w1 h1).mono ?_; rintro e w2 ⟨rfl, h2⟩)
  go_ret2
  exact ⟨rfl, h1.trans (h2.mono h1.size)⟩

set_option maxRecDepth 20000 in
theorem times_any (m : Nat) (hm : isF m) (a b : Nat) (ha : a < 2 ^ m) (hb : b < 2 ^ m) (w : World) (hT : TabF w) :
    Calls Tryd.prog 72 #[.int .i64 (m : Int), .int .i64 (a : Int), .int .i64 (b : Int)] w fun e w' => e = .returned (.int .i64 ((mulC m a b : Nat) : Int)) ∧ Below w.heap.size w w' := by
  have H := Lib.hid (mul_any m hm a b ha hb w hT)
  clear hT ha hb hm
  go_enter Tryd.func72, Tryd.ntmps72
  go_wp2_with (go_at_call 91; refine H.out.mono ?_; rintro e w1 ⟨rfl, h1⟩)
  go_ret
  exact ⟨rfl, h1⟩
end Go.Proofs.YtnilepaicnnbhaaDoor
