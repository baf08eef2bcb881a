/- disk.Len. -/
import Derived.Test.YtdeblpnkpefbcaaDz
namespace Go.Proofs.Ytdeblpnkpefbcaa
open Go.RowKit Go.Sl Go.ChangeMaps

set_option maxHeartbeats 400000 in
theorem len_any (p : Nat) (b : Option Addr) (n c : Nat) (w : World) (c0 : w.cell? ⟨p, 0, none⟩ = some (.slice b n c)) :
    Calls Try.prog 17 #[.pointer (some ⟨p, 0, none⟩)] w fun e w' => e = .returned (.int .i64 n) ∧ w = w' := by
  go_enter Try.func17, Try.ntmps17
  go_wp2
  go_ret
  exact ⟨rfl, rfl⟩

theorem len_all (p : Nat) (D : DiskM) (F : HProp) (w : World) (hS : Sat w (diskAt TD TS p D * F)) :
    Calls Try.prog 17 #[.pointer (some ⟨p, 0, none⟩)] w fun e w' => e = .returned (.int .i64 (D.n : Int)) ∧ w = w' := by
  obtain ⟨v, cb, ab, es, ck, l, es2, ck2, l2, ⟨hwf, hM, hK, hM2, hK2⟩, hs⟩ := diskAt_iff.1 hS
  obtain ⟨b, cap, rfl⟩ := durAt_slice hs.right
  obtain ⟨q0, q1, q2⟩ := disk_cells hs
  exact len_any _ _ _ _ _ q0

end Go.Proofs.Ytdeblpnkpefbcaa
