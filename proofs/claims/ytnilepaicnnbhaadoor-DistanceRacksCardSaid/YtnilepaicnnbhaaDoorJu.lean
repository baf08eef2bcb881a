/- distance.present: the indices of the units that are there. -/
import Derived.Test.YtnilepaicnnbhaaDoorJl
import Derived.Test.YtnilepaicnnbhaaDoorJm
namespace Go.GF
open Go Go.RowKit
def boolsV (h : List Bool) : List Value := h.map fun b => .bool b
theorem boolsV_len (h : List Bool) : (boolsV h).length = h.length := List.length_map _
theorem boolsV_at {h : List Bool} {j : Nat} {x : Bool} (hx : h[j]? = some x) : (boolsV h)[j]? = some (.bool x) := by unfold boolsV; rw [List.getElem?_map, hx]; rfl
/-- The units among the first k that are there. -/
def unitsK (h : List Bool) (k : Nat) : List Nat := (List.range k).filter fun u => (h[u]?).getD false
theorem unitsK_all (h : List Bool) : unitsK h h.length = units h := rfl
theorem unitsK_succ (h : List Bool) (k : Nat) {x : Bool} (hx : h[k]? = some x) : unitsK h (k + 1) = if x = true then unitsK h k ++ [k] else unitsK h k := by
  unfold unitsK
  rw [List.range_succ, List.filter_append]
  cases x <;> simp [hx]
theorem unitsK_len (h : List Bool) (k : Nat) : (unitsK h k).length ≤ k := by
  unfold unitsK
  have := List.length_filter_le (fun u => (h[u]?).getD false) (List.range k)
  simpa using this
end Go.GF
namespace Go.Proofs.YtnilepaicnnbhaaDoor
open Go.RowKit Go.GF Go.Sl

structure PsSt (w : World) (h : List Bool) (v k : Value) (wr : World) : Prop where
  st : ∃ n : Nat, n ≤ h.length ∧ k = .int .i64 (n : Int) ∧ OwnI w.heap.size wr v (natsI (unitsK h n)) ∧ Below w.heap.size w wr
set_option maxRecDepth 20000 in
set_option maxHeartbeats 2000000 in
theorem present_any (hv : Value) (h : List Bool) (h100 : h.length ≤ 1000) (w : World) (hr : RowI w hv (boolsV h)) :
    Calls Tryd.prog 30 #[hv] w fun e w' => ∃ v, e = .returned v ∧ OwnI w.heap.size w' v (natsI (units h)) ∧ Below w.heap.size w w' := by
  obtain ⟨ao, cp, rfl, -, -, hrow⟩ := hr
  rw [boolsV_len] at *
  have hl : (h.length : Int) ≤ 1000 := by omega
  have HR := Lib.hid hrow
  clear hrow
  go_enter Tryd.func30, Tryd.ntmps30
  go_wp2
  go_loopw [2, 7] (fun v k wr => PsSt w h v k wr) (fun _ k _ => h.length - (intOf k).toNat)
  case atStart => exact ⟨⟨0, Nat.zero_le _, rfl, OwnI.nil _ _, Below.refl _ _⟩⟩
  case round =>
    obtain ⟨k, hk, rfl, ho, hb⟩ := hrel.st
    clear hrel
    have HF := Lib.hid (And.intro ho hb)
    by_cases hlt : k < h.length
    · have hltd : decide ((k : Int) < (h.length : Int)) = true := decide_eq_true (by omega)
      have hwk : IntKind.i64.wrap ((k : Int) + 1) = (k : Int) + 1 := IntWalk.i64_in _ (by omega)
      obtain ⟨x, hx⟩ : ∃ x, h[k]? = some x := ⟨_, List.getElem?_eq_getElem hlt⟩
      obtain ⟨b, off, rfl, hbl, hc⟩ := HR.out (by omega)
      have e0 := (hb.cell (p := ⟨b, off + k, none⟩) hbl).trans (hc k _ (boolsV_at hx))
      have HS := Lib.hid (unitsK_succ h k hx)
      have HL := Lib.hid (unitsK_len h k)
      have hsz := hb.size
      clear ho hb hx hbl hc
      cases x with
      | false =>
        go_wp2
        go_roundw
        case rel => exact ⟨⟨k + 1, hlt, rfl, by rw [HS.out]; exact HF.out.1, HF.out.2⟩⟩
        case measure => simp only [intOf]; omega
      | true =>
        go_wp2_with (at_builtin; refine wpList_apN rfl _ _ rfl rfl rfl HF.out.1 (by rw [natsI_len]; have := HL.out; omega) hsz ?_; intro v' w9 h9 h10)
        go_roundw
        case rel => exact ⟨⟨k + 1, hlt, rfl, by rw [HS.out, if_pos rfl, natsI_app]; exact h9, HF.out.2.trans (((al_below wr _).mono hsz).trans h10)⟩⟩
        case measure => simp only [intOf]; omega
    · obtain rfl : k = h.length := by omega
      have hltd : decide ((h.length : Int) < (h.length : Int)) = false := decide_eq_false (by omega)
      clear ho hb
      go_wp2
      go_ret
      exact ⟨_, rfl, by rw [← unitsK_all]; exact HF.out.1, HF.out.2⟩
end Go.Proofs.YtnilepaicnnbhaaDoor
