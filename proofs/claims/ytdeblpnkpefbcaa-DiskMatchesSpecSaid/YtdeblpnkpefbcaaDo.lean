/- disk.Lose. -/
import Derived.Test.YtdeblpnkpefbcaaDk
namespace Go.Proofs.Ytdeblpnkpefbcaa
open Go.RowKit Go.Sl Go.ChangeMaps

set_option maxHeartbeats 400000 in
theorem lose_any (p : Nat) (D : DiskM) (F : HProp) (i : Int) (w : World) (hS : Sat w (diskAt TD TS p D * F)) :
    Calls Try.prog 26 #[.pointer (some ⟨p, 0, none⟩), .int .i64 i] w fun e w' => e = .returned (.int .i64 (D.lose i).2) ∧ Same w w' ∧ Sat w' (diskAt TD TS p (D.lose i).1 * F) := by
  obtain ⟨v, cb, ab, es, c, l, es2, c2, l2, ⟨hwf, hM, hK, hM2, hK2⟩, hs⟩ := diskAt_iff.1 hS
  obtain ⟨b, cap, rfl⟩ := durAt_slice hs.right
  obtain ⟨q0, q1, q2⟩ := disk_cells hs
  by_cases h : D.has i = true
  · have h2 := DiskM.has_iff.1 h
    have hd : (decide (0 ≤ i) && decide (i < (D.n : Int))) = true := h
    have hab : Sat w (pts ab (.map es2 c2) * (pts p (.cells #[.slice b D.n cap, .map (some cb), .map (some ab)] TD (0, 0)) * (durAt TS D.n D.dur (.slice b D.n cap) * (pts cb (.map es c) * F)))) := hs.perm (by ac_rfl)
    obtain ⟨es3, c3, hrun, hM3⟩ := run_mapUpdate_kv (P := Try.prog) Try.underlying63 Try.underlying3 hab.block hM2 i (.int .i64 (-1))
    have hl : D.lose i = ({ D with armed := fupd D.armed i.toNat (some (-1)) }, 0) := if_pos h
    have hwf' := hwf.lose i
    rw [hl] at hwf' ⊢
    have hfin : Sat (setBlock w ab (.map es3 c3)) (diskAt TD TS p { D with armed := fupd D.armed i.toNat (some (-1)) } * F) :=
      diskAt_iff.2 ⟨.slice b D.n cap, cb, ab, es, c, l, es3, c3, _, ⟨hwf', hM, hK, hM3, hK2.upd h2.1 _⟩, (hab.setBlock (o' := .map es3 c3)).perm (by ac_rfl)⟩
    have HF := Lib.hid hfin
    clear hfin hab hs hS hM hK hM2 hK2 hM3 hwf hwf' hl
    go_enter Try.func26, Try.ntmps26
    go_wp2_with (go_at_call 41; refine (has_any _ _ _ _ _ _ q0).mono ?_; rintro e w' ⟨rfl, rfl⟩)
    go_ret
    exact ⟨rfl, (Same.refl w).setBlock _, HF.out⟩
  · have hd : (decide (0 ≤ i) && decide (i < (D.n : Int))) = false := by simpa [DiskM.has] using h
    have HS := Lib.hid hS
    clear hS hs hM hK hM2 hK2 hwf
    go_enter Try.func26, Try.ntmps26
    go_wp2_with (go_at_call 41; refine (has_any _ _ _ _ _ _ q0).mono ?_; rintro e w' ⟨rfl, rfl⟩)
    go_ret
    have hl : D.lose i = (D, 1) := by unfold DiskM.lose; rw [if_neg h]
    rw [hl]
    exact ⟨rfl, Same.refl w, HS.out⟩

end Go.Proofs.Ytdeblpnkpefbcaa
