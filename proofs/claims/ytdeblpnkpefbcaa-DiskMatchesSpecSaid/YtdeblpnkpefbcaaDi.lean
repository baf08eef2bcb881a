/- disk.Misdirect. -/
import Derived.Test.YtdeblpnkpefbcaaDk
namespace Go.Proofs.Ytdeblpnkpefbcaa
open Go.RowKit Go.Sl Go.ChangeMaps

set_option maxHeartbeats 400000 in
theorem misdirect_any (p : Nat) (D : DiskM) (F : HProp) (i to : Int) (w : World) (hS : Sat w (diskAt TD TS p D * F)) :
    Calls Try.prog 29 #[.pointer (some ⟨p, 0, none⟩), .int .i64 i, .int .i64 to] w fun e w' => e = .returned (.int .i64 (D.misdirect i to).2) ∧ Same w w' ∧ Sat w' (diskAt TD TS p (D.misdirect i to).1 * F) := by
  obtain ⟨v, cb, ab, es, ck, l, es2, ck2, l2, ⟨hwf, hM, hK, hM2, hK2⟩, hs⟩ := diskAt_iff.1 hS
  obtain ⟨b, cap, rfl⟩ := durAt_slice hs.right
  obtain ⟨q0, q1, q2⟩ := disk_cells hs
  by_cases h : D.has i = true ∧ D.has to = true
  · have h2 := DiskM.has_iff.1 h.1
    have hd : (decide (0 ≤ i) && decide (i < (D.n : Int))) = true := h.1
    have hd' : (decide (0 ≤ to) && decide (to < (D.n : Int))) = true := h.2
    have hab : Sat w (pts ab (.map es2 ck2) * (pts p (.cells #[.slice b D.n cap, .map (some cb), .map (some ab)] TD (0, 0)) * (durAt TS D.n D.dur (.slice b D.n cap) * (pts cb (.map es ck) * F)))) := hs.perm (by ac_rfl)
    obtain ⟨es3, c3, hrun, hM3⟩ := run_mapUpdate_kv (P := Try.prog) Try.underlying63 Try.underlying3 hab.block hM2 i (.int .i64 to)
    have hl : D.misdirect i to = ({ D with armed := fupd D.armed i.toNat (some to) }, 0) := if_pos h
    have hwf' := hwf.misdirect i to
    rw [hl] at hwf' ⊢
    have hfin : Sat (setBlock w ab (.map es3 c3)) (diskAt TD TS p { D with armed := fupd D.armed i.toNat (some to) } * F) :=
      diskAt_iff.2 ⟨.slice b D.n cap, cb, ab, es, ck, l, es3, c3, _, ⟨hwf', hM, hK, hM3, hK2.upd h2.1 _⟩, (hab.setBlock (o' := .map es3 c3)).perm (by ac_rfl)⟩
    have HF := Lib.hid hfin
    clear hfin hab hs hS hM hK hM2 hK2 hM3 hwf hwf' hl h
    go_enter Try.func29, Try.ntmps29
    go_wp2_with (go_at_call 41; refine (has_any _ _ _ _ _ _ q0).mono ?_; rintro e w' ⟨rfl, rfl⟩)
    go_ret
    exact ⟨rfl, (Same.refl w).setBlock _, HF.out⟩
  · have HS := Lib.hid hS
    have hl : D.misdirect i to = (D, 1) := if_neg h
    rw [hl]
    by_cases hh : D.has i = true
    · have hd : (decide (0 ≤ i) && decide (i < (D.n : Int))) = true := hh
      have hd' : (decide (0 ≤ to) && decide (to < (D.n : Int))) = false := by
        have : ¬ D.has to = true := fun hc => h ⟨hh, hc⟩
        simpa [DiskM.has] using this
      clear hS hs hM hK hM2 hK2 hwf hl h hh
      go_enter Try.func29, Try.ntmps29
      go_wp2_with (go_at_call 41; refine (has_any _ _ _ _ _ _ q0).mono ?_; rintro e w' ⟨rfl, rfl⟩)
      go_ret
      exact ⟨rfl, Same.refl w, HS.out⟩
    · have hd : (decide (0 ≤ i) && decide (i < (D.n : Int))) = false := by simpa [DiskM.has] using hh
      clear hS hs hM hK hM2 hK2 hwf hl h hh
      go_enter Try.func29, Try.ntmps29
      go_wp2_with (go_at_call 41; refine (has_any _ _ _ _ _ _ q0).mono ?_; rintro e w' ⟨rfl, rfl⟩)
      go_ret
      exact ⟨rfl, Same.refl w, HS.out⟩

end Go.Proofs.Ytdeblpnkpefbcaa
