/- slices.ContainsFunc over rows of any values; erasure's every. -/
import Derived.Test.YtnilepaicnnbhaaDoorJo
namespace Go.Proofs.YtnilepaicnnbhaaDoor
open Go.RowKit Go.GF Go.Sl

structure IvSt2 (w : World) (n : Nat) (p : Nat → Bool) (i : Value) (wr : World) : Prop where
  st : ∃ k : Nat, k ≤ n ∧ i = .int .i64 (k : Int) ∧ (List.range k).any p = false ∧ Below w.heap.size w wr
set_option maxRecDepth 20000 in
set_option maxHeartbeats 2000000 in
theorem ixv_any (v : Value) (L : List Value) (f : FuncId) (cap : Array Value) (p : Nat → Bool) (w : World) (hcf : ∀ args w, (callFunc f args).run Tryd.prog w = .ok (.enter f args) w) (hv : RowI w v L)
    (hp : ∀ j x, L[j]? = some x → ∀ W, Below w.heap.size w W → Calls Tryd.prog f (#[x] ++ cap) W fun e W' => e = .returned (.bool (p j)) ∧ Below W.heap.size W W') :
    Calls Tryd.prog 94 #[v, .func (.func f) #[] cap] w fun e w' => (∃ k : Int, e = .returned (.int .i64 k) ∧ (decide (0 ≤ k)) = (List.range L.length).any p) ∧ Below w.heap.size w w' := by
  obtain ⟨ao, cp, rfl, hlc, hcm, hrow⟩ := hv
  unfold maxLen at hcm
  have hl63 : L.length ≤ 9223372036854775807 := by omega
  have HR := Lib.hid hrow
  have HP := Lib.hid hp
  clear hrow hp hlc hcm
  go_enter Tryd.func94, Tryd.ntmps94
  go_wp2
  go_loopw [8] (fun i wr => IvSt2 w L.length p i wr) (fun i _ => L.length - (intOf i).toNat)
  case atStart => exact ⟨⟨0, Nat.zero_le _, rfl, rfl, Below.refl _ _⟩⟩
  case round =>
    obtain ⟨k, hk, rfl, ha, hb⟩ := hrel.st
    clear hrel
    have HB := Lib.hid hb
    by_cases hlt : k < L.length
    · have hltd : decide ((k : Int) < (L.length : Int)) = true := decide_eq_true (by omega)
      have hki : (k : Int) ≤ 9223372036854775806 := by omega
      obtain ⟨x, hx⟩ : ∃ x, L[k]? = some x := ⟨_, List.getElem?_eq_getElem hlt⟩
      obtain ⟨b, off, rfl, hbl, hc⟩ := HR.out (by omega)
      have e0 := (hb.cell (p := ⟨b, off + k, none⟩) hbl).trans (hc k _ hx)
      have HC := Lib.hid (HP.out k x hx wr hb)
      have HT := Lib.hid (show (List.range (k + 1)).any p = p k by rw [List.range_succ, List.any_append, ha]; simp)
      have HA := Lib.hid (fun h : p k = true => show (List.range L.length).any p = true from List.any_eq_true.2 ⟨k, List.mem_range.2 hlt, h⟩)
      clear ha hb hx hbl hc HP HR
      cases hpx : p k with
      | true =>
        rw [hpx] at HC HT
        go_wp2_with (refine HC.out.mono ?_; rintro e w1 ⟨rfl, h1⟩)
        go_ret
        exact ⟨⟨(k : Int), rfl, by rw [HA.out hpx]; exact decide_eq_true (by omega)⟩, HB.out.trans (h1.mono HB.out.size)⟩
      | false =>
        rw [hpx] at HC HT
        go_wp2_with (refine HC.out.mono ?_; rintro e w1 ⟨rfl, h1⟩)
        go_roundw
        case rel => exact ⟨⟨k + 1, by omega, rfl, HT.out, HB.out.trans (h1.mono HB.out.size)⟩⟩
        case measure => simp only [intOf]; omega
    · have hke : k = L.length := by omega
      have hltd : decide ((k : Int) < (L.length : Int)) = false := decide_eq_false (by omega)
      have HF := Lib.hid (show (List.range L.length).any p = false by rw [← hke]; exact ha)
      clear ha hb hke HP HR
      go_wp2
      go_ret
      exact ⟨⟨-1, rfl, by rw [HF.out]; rfl⟩, HB.out⟩
set_option maxRecDepth 20000 in
theorem containsv_any (v : Value) (L : List Value) (f : FuncId) (cap : Array Value) (p : Nat → Bool) (w : World) (hcf : ∀ args w, (callFunc f args).run Tryd.prog w = .ok (.enter f args) w) (hv : RowI w v L)
    (hp : ∀ j x, L[j]? = some x → ∀ W, Below w.heap.size w W → Calls Tryd.prog f (#[x] ++ cap) W fun e W' => e = .returned (.bool (p j)) ∧ Below W.heap.size W W') :
    Calls Tryd.prog 75 #[v, .func (.func f) #[] cap] w fun e w' => e = .returned (.bool ((List.range L.length).any p)) ∧ Below w.heap.size w w' := by
  have H := Lib.hid (ixv_any v L f cap p w hcf hv hp)
  clear hv hp
  go_enter Tryd.func75, Tryd.ntmps75
  go_wp2_with (go_at_call 94; refine H.out.mono ?_; rintro e w1 ⟨⟨k, rfl, hk⟩, h1⟩)
  go_ret
  exact ⟨by rw [← hk]; rfl, h1⟩
theorem fbox (w : World) (x : Value) (t : TypeId) (W : World) (h : Below (w.alloc (.cells #[x] t)).heap.size (w.alloc (.cells #[x] t)) W) : W.cell? ⟨w.heap.size, 0, none⟩ = some x := by
  rw [h.cell (p := ⟨w.heap.size, 0, none⟩) (by simp)]
  unfold World.cell?
  rw [show (w.alloc (.cells #[x] t)).heap[w.heap.size]? = _ from World.alloc_heap_new w _]; rfl

set_option maxRecDepth 20000 in
theorem every1I (x : Value) (q : Nat) (f : FuncId) (cap : Array Value) (r : Bool) (w : World) (hcf : ∀ args w, (callFunc f args).run Tryd.prog w = .ok (.enter f args) w) (hq : w.cell? ⟨q, 0, none⟩ = some (.func (.func f) #[] cap))
    (hp : Calls Tryd.prog f (#[x] ++ cap) w fun e W' => e = .returned (.bool r) ∧ Below w.heap.size w W') :
    Calls Tryd.prog 77 #[x, .pointer (some ⟨q, 0, none⟩)] w fun e w' => e = .returned (.bool (!r)) ∧ Below w.heap.size w w' := by
  have H := Lib.hid hp
  clear hp
  go_enter Tryd.func77, Tryd.ntmps77
  go_wp2_with (refine H.out.mono ?_; rintro e w1 ⟨rfl, h1⟩)
  go_ret
  exact ⟨rfl, h1⟩
theorem every1I_run (args : Array Value) (w : World) : (callFunc 77 args).run Tryd.prog w = .ok (.enter 77 args) w := by kernel_rfl
set_option maxRecDepth 20000 in
theorem everyI (v : Value) (L : List Int) (f : FuncId) (cap : Array Value) (p : Int → Bool) (w : World) (hcf : ∀ args w, (callFunc f args).run Tryd.prog w = .ok (.enter f args) w) (hv : RowI w v (intsV L))
    (hp : ∀ x ∈ L, ∀ W, Below w.heap.size w W → Calls Tryd.prog f (#[.int .i64 x] ++ cap) W fun e W' => e = .returned (.bool (p x)) ∧ Below W.heap.size W W') :
    Calls Tryd.prog 60 #[v, .func (.func f) #[] cap] w fun e w' => e = .returned (.bool (L.all p)) ∧ Below w.heap.size w w' := by
  have HC : ∀ t, Calls Tryd.prog 67 #[v, .func (.func 77) #[] #[.pointer (some ⟨w.heap.size, 0, none⟩)]] (w.alloc (.cells #[.func (.func f) #[] cap] t)) fun e w' => e = .returned (.bool (L.any fun x => !p x)) ∧ Below w.heap.size w w' := by
    intro t
    have hb0 := al_below w (.cells #[.func (.func f) #[] cap] t)
    refine (containsf_any v L 77 #[.pointer (some ⟨w.heap.size, 0, none⟩)] (fun j => !p j) _ every1I_run (hv.below hb0) ?_).mono ?_
    · intro x hx W hb
      have h := every1I (.int .i64 x) w.heap.size f cap (p x) W hcf (fbox w _ t W hb) (hp x hx W (hb0.trans (hb.mono hb0.size)))
      exact h
    · rintro e w' ⟨rfl, h⟩
      exact ⟨rfl, hb0.trans (h.mono hb0.size)⟩
  have H := Lib.hid HC
  obtain ⟨ao, cp, rfl, -, -, -⟩ := hv
  clear HC hp hcf
  go_enter Tryd.func60, Tryd.ntmps60
  go_wp2_with (go_at_call 67; refine (H.out _).mono ?_; rintro e w1 ⟨rfl, h1⟩)
  go_ret
  exact ⟨by rw [List.all_eq_not_any_not]; rfl, h1⟩

set_option maxRecDepth 20000 in
theorem every1R (x : Value) (q : Nat) (f : FuncId) (cap : Array Value) (r : Bool) (w : World) (hcf : ∀ args w, (callFunc f args).run Tryd.prog w = .ok (.enter f args) w) (hq : w.cell? ⟨q, 0, none⟩ = some (.func (.func f) #[] cap))
    (hp : Calls Tryd.prog f (#[x] ++ cap) w fun e W' => e = .returned (.bool r) ∧ Below w.heap.size w W') :
    Calls Tryd.prog 76 #[x, .pointer (some ⟨q, 0, none⟩)] w fun e w' => e = .returned (.bool (!r)) ∧ Below w.heap.size w w' := by
  have H := Lib.hid hp
  clear hp
  go_enter Tryd.func76, Tryd.ntmps76
  go_wp2_with (refine H.out.mono ?_; rintro e w1 ⟨rfl, h1⟩)
  go_ret
  exact ⟨rfl, h1⟩
theorem every1R_run (args : Array Value) (w : World) : (callFunc 76 args).run Tryd.prog w = .ok (.enter 76 args) w := by kernel_rfl
set_option maxRecDepth 20000 in
theorem everyR (v : Value) (L : List Value) (f : FuncId) (cap : Array Value) (p : Nat → Bool) (w : World) (hcf : ∀ args w, (callFunc f args).run Tryd.prog w = .ok (.enter f args) w) (hv : RowI w v L)
    (hp : ∀ j x, L[j]? = some x → ∀ W, Below w.heap.size w W → Calls Tryd.prog f (#[x] ++ cap) W fun e W' => e = .returned (.bool (p j)) ∧ Below W.heap.size W W') :
    Calls Tryd.prog 58 #[v, .func (.func f) #[] cap] w fun e w' => e = .returned (.bool ((List.range L.length).all p)) ∧ Below w.heap.size w w' := by
  have HC : ∀ t, Calls Tryd.prog 75 #[v, .func (.func 76) #[] #[.pointer (some ⟨w.heap.size, 0, none⟩)]] (w.alloc (.cells #[.func (.func f) #[] cap] t)) fun e w' => e = .returned (.bool ((List.range L.length).any fun j => !p j)) ∧ Below w.heap.size w w' := by
    intro t
    have hb0 := al_below w (.cells #[.func (.func f) #[] cap] t)
    refine (containsv_any v L 76 #[.pointer (some ⟨w.heap.size, 0, none⟩)] (fun j => !p j) _ every1R_run (hv.below hb0) ?_).mono ?_
    · intro j x hx W hb
      have h := every1R x w.heap.size f cap (p j) W hcf (fbox w _ t W hb) (hp j x hx W (hb0.trans (hb.mono hb0.size)))
      exact h
    · rintro e w' ⟨rfl, h⟩
      exact ⟨rfl, hb0.trans (h.mono hb0.size)⟩
  have H := Lib.hid HC
  obtain ⟨ao, cp, rfl, -, -, -⟩ := hv
  clear HC hp hcf
  go_enter Tryd.func58, Tryd.ntmps58
  go_wp2_with (go_at_call 75; refine (H.out _).mono ?_; rintro e w1 ⟨rfl, h1⟩)
  go_ret
  exact ⟨by rw [List.all_eq_not_any_not]; rfl, h1⟩
end Go.Proofs.YtnilepaicnnbhaaDoor
