/- math/bits.TrailingZeros16: the lowest set bit, by the table that start-up lays. -/
import Derived.Test.YtednjhlkhecihaaDoorEa
namespace Go.Proofs.YtednjhlkhecihaaDoor
open Go.RowKit Go.Vol

/-- The table, as its initialiser lays it. -/
def TabW (w : World) : Prop := ∀ k, k < 32 → w.cell? ⟨0, k, none⟩ = some (.int .u8 ((Lib.deBruijn32tab.getD k 0 : Nat) : Int))
theorem TabW.keep {w w' : World} (h : TabW w) (hb : w'.heap[0]? = w.heap[0]?) : TabW w' := fun k hk => by
  have := h k hk
  unfold World.cell? at this ⊢
  simp only at this ⊢
  rw [hb]; exact this

set_option maxHeartbeats 1000000 in
theorem tz16_core (x k idx : Nat) (w : World) (hx0 : ((x : Int) == 0) = false)
    (key : bits BinOp.and IntKind.u16 (x : Int) (IntKind.u16.wrap (-(x : Int))) % 4294967296 * 125613361 % 4294967296 / 134217728 = (idx : Int))
    (hi : idx < 32) (hk : k < 32) (hcell : w.cell? ⟨0, idx, none⟩ = some (.int .u8 k)) :
    Calls Tryd.prog 77 #[.int .u16 (x : Int)] w fun e w' => e = .returned (.int .i64 (k : Int)) ∧ w' = w := by
  go_enter Tryd.func77, Tryd.ntmps77
  go_wp2_with (simp only [key])
  go_ret
  exact ⟨rfl, rfl⟩
theorem tz16_key (x a : Nat) (hx : x < 65536) (hx0 : x ≠ 0) (hlow : x &&& (65536 - x) = a) :
    bits BinOp.and IntKind.u16 (x : Int) (IntKind.u16.wrap (-(x : Int))) % 4294967296 * 125613361 % 4294967296 / 134217728 = ((a * 125613361 % 4294967296 / 134217728 : Nat) : Int) := by
  have e1 : IntKind.u16.wrap (-(x : Int)) = ((65536 - x : Nat) : Int) := by
    have : IntKind.u16.wrap (-(x : Int)) = (-(x : Int)) % 65536 := by simp [IntKind.wrap, IntKind.signed, IntKind.bits]
    rw [this]; omega
  have hl : a < 65536 := by rw [← hlow]; exact Nat.lt_of_le_of_lt Nat.and_le_left hx
  rw [e1, u16_and_nat x _ hx (by omega), hlow]
  omega
theorem tz16_any (x : Nat) (h0 : x ≠ 0) (hl : x < 65536) (w : World) (hT : TabW w) : Calls Tryd.prog 77 #[.int .u16 (x : Int)] w fun e w' => e = .returned (.int .i64 ((Lib.ctz 16 x : Nat) : Int)) ∧ w' = w := by
  obtain ⟨h1, h2⟩ := tz_idx h0 hl
  have hc := hT _ h1
  rw [h2] at hc
  exact tz16_core x _ _ w (by simp; omega) (tz16_key x _ hl h0 rfl) h1 (by have := (low_bit h0 hl).2; omega) hc
end Go.Proofs.YtednjhlkhecihaaDoor
