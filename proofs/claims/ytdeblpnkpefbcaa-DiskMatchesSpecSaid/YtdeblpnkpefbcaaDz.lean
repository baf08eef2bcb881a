/- A disk without sectors: Flush and Cut; and the joined contracts. -/
import Derived.Test.YtdeblpnkpefbcaaCu
import Derived.Test.YtdeblpnkpefbcaaDf
import Derived.Test.YtdeblpnkpefbcaaDr
namespace Go.Proofs.Ytdeblpnkpefbcaa
open Go.RowKit Go.Sl Go.ChangeMaps

theorem zero_cache {D : DiskM} (h : D.WF) (hn : D.n = 0) : D.cache = fun _ => none := by
  funext i
  cases hc : D.cache i with
  | none => rfl
  | some s => have := (h.cache i s hc).1; omega
theorem zero_kv {l : KV} (h : KvSec l fun _ => none) : l = [] := by
  cases l with
  | nil => rfl
  | cons a t =>
    obtain ⟨k, v⟩ := a
    have := h k
    simp [lk] at this
theorem zero_flush {D : DiskM} (h : D.WF) (hn : D.n = 0) : D.flush = D := by
  have hc := zero_cache h hn
  unfold DiskM.flush
  rw [← hc]
  have : (fun i => D.content i) = D.dur := by funext i; simp [DiskM.content, hc]
  rw [this]

structure FlushZ (w0 : World) (p : Nat) (D : DiskM) (F : HProp) (r cb ck : Nat) (X : HProp) (wr : World) : Prop where
  st : Same w0 wr ∧ Sat wr (pts r (.mapIter (some cb) ck #[] ck) * (pts cb (.map #[] ck) * X))

set_option linter.unusedSimpArgs false in
set_option maxHeartbeats 1000000 in
theorem flush_zero (p : Nat) (D : DiskM) (F : HProp) (w : World) (hS : Sat w (diskAt TD TS p D * F)) (hn : D.n = 0) :
    Calls Try.prog 20 #[.pointer (some ⟨p, 0, none⟩)] w fun e w' => e = .returned (.tuple #[]) ∧ Same w w' ∧ Sat w' (diskAt TD TS p D.flush * F) := by
  obtain ⟨v, cb, ab, es, ck, l, es2, ck2, l2, ⟨hwf, hM, hK, hM2, hK2⟩, hs⟩ := diskAt_iff.1 hS
  rw [zero_flush hwf hn]
  have hc := zero_cache hwf hn
  have hK' := hK
  rw [hc] at hK'
  obtain rfl := zero_kv hK'
  obtain rfl : es = #[] := by have := hM.size; simp at this; exact this
  obtain ⟨q0, q1, q2⟩ := disk_cells hs
  have hcs := hs.perm (show _ = pts cb (.map #[] ck) * (pts p (.cells #[v, .map (some cb), .map (some ab)] TD (0, 0)) * (durAt TS D.n D.dur v * (pts ab (.map es2 ck2) * F))) from by ac_rfl)
  have hrg := run_range_kv (P := Try.prog) Try.underlying62 hcs.block
  have hst : FlushZ w p D F w.heap.size cb ck (pts p (.cells #[v, .map (some cb), .map (some ab)] TD (0, 0)) * (durAt TS D.n D.dur v * (pts ab (.map es2 ck2) * F))) (w.alloc (.mapIter (some cb) ck #[] ck)) :=
    ⟨(Same.refl w).alloc _, hcs.alloc (.mapIter (some cb) ck #[] ck)⟩
  have HM := Lib.hid hM
  have HST := Lib.hid hst
  have HB := Lib.hid (fun w' (h : Sat w' (pts cb (.map #[] ck) * (pts p (.cells #[v, .map (some cb), .map (some ab)] TD (0, 0)) * (durAt TS D.n D.dur v * (pts ab (.map es2 ck2) * F))))) =>
    (diskAt_iff.2 ⟨v, cb, ab, #[], ck, [], es2, ck2, l2, ⟨hwf, hM, hK, hM2, hK2⟩, h.perm (by ac_rfl)⟩ : Sat w' (diskAt TD TS p D * F)))
  clear hst hM hK hK' hM2 hK2 hwf hs hcs hS hc
  go_enter Try.func20, Try.ntmps20
  go_wp2_with ((with_reducible (apply wpList_range_run (h := hrg))); rfl; rfl; rfl)
  generalize w.heap.size = r at HST ⊢
  clear hrg q0 q1 q2
  go_loopw [] (fun wr => FlushZ w p D F r cb ck (pts p (.cells #[v, .map (some cb), .map (some ab)] TD (0, 0)) * (durAt TS D.n D.dur v * (pts ab (.map es2 ck2) * F))) wr) (fun wr => 0)
  case atStart => exact HST.out
  case round =>
    obtain ⟨hsm, hsat⟩ := hrel.st
    clear hrel
    rcases run_next_kv (P := Try.prog) hsat.block hsat.right.block HM.out with ⟨hall, W, hnx, hW⟩ | ⟨e, he, hes, w0, hw0, hnx⟩
    · have hsW : Sat W (pts cb (.map #[] ck) * (pts p (.cells #[v, .map (some cb), .map (some ab)] TD (0, 0)) * (durAt TS D.n D.dur v * (pts ab (.map es2 ck2) * F)))) := by rcases hW with rfl | rfl <;> exact hsat.right
      have hsmW : Same w W := by rcases hW with rfl | rfl; exact hsm; exact hsm.drew
      have hcl := run_clear_kv (P := Try.prog) (w := W) Try.underlying62 hsW.block
      obtain ⟨q0, q1, q2⟩ := disk_cells hsW.right
      have hfin := HB.out _ (hsW.setBlock (o' := .map #[] ck))
      have HF := Lib.hid hfin
      have HS := Lib.hid hsmW
      clear hfin hsW hsmW hsat hsm hW hall
      go_wp2_with (first
        | ((with_reducible (apply wpList_next_run (h := hnx))); rfl; rfl; rfl)
        | ((with_reducible (apply wpList_clear_run (hrun := hcl))); rfl; rfl; rfl))
      go_end0
      exact ⟨rfl, HS.out.setBlock _, HF.out⟩
    · simp at he

theorem flush_all (p : Nat) (D : DiskM) (F : HProp) (w : World) (hS : Sat w (diskAt TD TS p D * F)) :
    Calls Try.prog 20 #[.pointer (some ⟨p, 0, none⟩)] w fun e w' => e = .returned (.tuple #[]) ∧ Same w w' ∧ Sat w' (diskAt TD TS p D.flush * F) := by
  by_cases hn : D.n = 0
  · exact flush_zero p D F w hS hn
  · exact flush_any p D F w hS (by omega)

set_option maxHeartbeats 400000 in
theorem rot_bad (p : Nat) (D : DiskM) (F : HProp) (i bit : Int) (w : World) (hS : Sat w (diskAt TD TS p D * F)) (h : ¬ (D.has i = true ∧ 0 ≤ bit ∧ bit < 512)) :
    Calls Try.prog 30 #[.pointer (some ⟨p, 0, none⟩), .int .i64 i, .int .i64 bit] w fun e w' => e = .returned (.int .i64 1) ∧ Same w w' ∧ Sat w' (diskAt TD TS p D * F) := by
  obtain ⟨v, cb, ab, es, ck, l, es2, ck2, l2, ⟨hwf, hM, hK, hM2, hK2⟩, hs⟩ := diskAt_iff.1 hS
  obtain ⟨b, cap, rfl⟩ := durAt_slice hs.right
  obtain ⟨q0, q1, q2⟩ := disk_cells hs
  have HS := Lib.hid hS
  by_cases hh : D.has i = true
  · have hd : (decide (0 ≤ i) && decide (i < (D.n : Int))) = true := hh
    by_cases h0 : 0 ≤ bit
    · have hb1 : decide (bit < 0) = false := decide_eq_false (by omega)
      have hb2 : decide (512 ≤ bit) = true := decide_eq_true (by by_cases h5 : 512 ≤ bit; exact h5; exact absurd ⟨hh, h0, by omega⟩ h)
      clear hS hs hM hK hM2 hK2 hwf h hh
      go_enter Try.func30, Try.ntmps30
      go_wp2_with (go_at_call 41; refine (has_any _ _ _ _ _ _ q0).mono ?_; rintro e w' ⟨rfl, rfl⟩)
      go_ret
      exact ⟨rfl, Same.refl w, HS.out⟩
    · have hb1 : decide (bit < 0) = true := decide_eq_true (by omega)
      clear hS hs hM hK hM2 hK2 hwf h hh
      go_enter Try.func30, Try.ntmps30
      go_wp2_with (go_at_call 41; refine (has_any _ _ _ _ _ _ q0).mono ?_; rintro e w' ⟨rfl, rfl⟩)
      go_ret
      exact ⟨rfl, Same.refl w, HS.out⟩
  · have hd : (decide (0 ≤ i) && decide (i < (D.n : Int))) = false := by simpa [DiskM.has] using hh
    clear hS hs hM hK hM2 hK2 hwf h hh
    go_enter Try.func30, Try.ntmps30
    go_wp2_with (go_at_call 41; refine (has_any _ _ _ _ _ _ q0).mono ?_; rintro e w' ⟨rfl, rfl⟩)
    go_ret
    exact ⟨rfl, Same.refl w, HS.out⟩

theorem rot_all (p : Nat) (D : DiskM) (F : HProp) (i bit : Int) (w : World) (hS : Sat w (diskAt TD TS p D * F)) :
    Calls Try.prog 30 #[.pointer (some ⟨p, 0, none⟩), .int .i64 i, .int .i64 bit] w fun e w' => e = .returned (.int .i64 (D.rot i bit).2) ∧ Same w w' ∧ Sat w' (diskAt TD TS p (D.rot i bit).1 * F) := by
  by_cases h : D.has i = true ∧ 0 ≤ bit ∧ bit < 512
  · have h2 := DiskM.has_iff.1 h.1
    obtain ⟨k, rfl⟩ := Int.eq_ofNat_of_zero_le h2.1
    obtain ⟨m, rfl⟩ := Int.eq_ofNat_of_zero_le h.2.1
    have hr : (D.rot (k : Int) (m : Int)).2 = 0 := by unfold DiskM.rot; rw [if_pos h]
    rw [hr]
    exact rot_any p D F k m w hS (by omega) h.1
  · have hr : D.rot i bit = (D, 1) := by unfold DiskM.rot; rw [if_neg h]
    rw [hr]
    exact rot_bad p D F i bit w hS h

end Go.Proofs.Ytdeblpnkpefbcaa
