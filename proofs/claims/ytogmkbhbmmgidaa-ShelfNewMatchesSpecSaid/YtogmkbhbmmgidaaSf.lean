/- shelf.Peek. -/
import Derived.Test.YtogmkbhbmmgidaaSw
namespace Go.Proofs.Ytogmkbhbmmgidaa
open Go.RowKit Go.Sl Go.ChangeMaps

theorem cf_peek (args : Array Value) (w : World) : (callFunc 36 args).run Try.prog w = .ok (.enter 36 args) w := by kernel_rfl

set_option maxHeartbeats 400000 in
theorem peek1_any (q tB : Nat) (n : Int) (s : ByteArray) (D : DiskM) (F G : HProp) (w : World) (hS : Sat w (diskAt TD TS q D * ((pts tB (.cells #[.string s] TString (0, 0)) * F) * G))) :
    Calls Try.prog 36 (#[.agg #[ptrV q, .int .i64 1], .int .i64 n] ++ #[ptrV tB]) w fun e w' => e = .returned (.int .i64 (D.read n).2) ∧ Hid (Same w w' ∧ Sat w' (diskAt TD TS q D * ((pts tB (.cells #[.string (strB (D.read n).1)] TString (0, 0)) * F) * G))) := by
  have HS := Lib.hid hS
  have hp := hS.perm (show _ = pts tB (.cells #[.string s] TString (0, 0)) * (diskAt TD TS q D * (F * G)) from by ac_rfl)
  have c0 : w.cell? ⟨tB, 0, none⟩ = some (.string s) := cells_at hp.block 0
  have f0 : w.frozen? ⟨tB, 0, none⟩ = false := thawed_at hp.block 0
  have l0 := hp.lt
  have hrd := read_any q D ((pts tB (.cells #[.string s] TString (0, 0)) * F) * G) n (w.alloc (.cells #[ptrV q, .int .i64 1] TBay)) (hS.allocKeep _)
  obtain ⟨⟨t, k⟩, hr⟩ : ∃ r, D.read n = r := ⟨_, rfl⟩
  rw [hr] at hrd ⊢
  simp only at hrd ⊢
  clear hS hp hr
  show Calls Try.prog 36 #[.agg #[ptrV q, .int .i64 1], .int .i64 n, ptrV tB] w _
  unfold ptrV at hrd ⊢
  go_enter Try.func36, Try.ntmps36
  go_upto_region 3 with (go_at_call 37; refine hrd.mono ?_; rintro e w1 ⟨rfl, hb⟩; have c1 : w1.cell? ⟨tB, 0, none⟩ = some (.string s) := (hb.cell (p := ⟨tB, 0, none⟩) (by simp; omega)).trans ((World.cell?_alloc_lt _ _ _ l0).trans c0); have f1 : w1.frozen? ⟨tB, 0, none⟩ = false := thawed_at ((HS.out.allocKeep _).below hb |>.perm (show _ = pts tB (.cells #[.string s] TString (0, 0)) * (diskAt TD TS q D * (F * G)) from by ac_rfl)).block 0; have HB := Lib.hid hb; clear hb c0 f0)
  go_wp2
  go_ret
  refine ⟨rfl, (((Same.refl w).alloc _).below HB.out).setCell _ _, ?_⟩
  exact ((((HS.out.allocKeep _).below HB.out).perm (show _ = pts tB (.cells #[.string s] TString (0, 0)) * (diskAt TD TS q D * (F * G)) from by ac_rfl)).setCell (i := 0) _).perm (by show pts tB (.cells #[.string (strB t)] TString (0, 0)) * _ = _; ac_rfl)

def PeekOut (p : Nat) (S : ShelfM) (F : HProp) (r : List UInt8 × Bool) (w : World) (e : Ending) (w' : World) : Prop := e = .returned (.tuple #[.string (strB r.1), .bool r.2]) ∧ Same w w' ∧ Sat w' (shelfAt SH p S * F)

theorem ptrV_eq (p : Nat) : ptrV p = .pointer (some ⟨p, 0, none⟩) := rfl

theorem zeroStr (w : World) : (zeroValue TString).run Try.prog w = .ok (.string ⟨#[]⟩) w := by kernel_rfl

set_option maxHeartbeats 1000000 in
theorem peek_any (p : Nat) (S : ShelfM) (F : HProp) (a : PlaceM) (w : World) (hS : Sat w (shelfAt SH p S * F)) :
    Calls Try.prog 12 #[.pointer (some ⟨p, 0, none⟩), .agg (plA a)] w (PeekOut p S F (S.peek a) w) := by
  have hwf := shelfAt_wf hS
  have hA := ((hS.alloc (.cells (plA a) TPl)).alloc (.cells #[.string ⟨#[]⟩] TString))
  rw [World.size_alloc] at hA
  have hpk : S.peek a = if S.number a < 0 then ([], false) else if S.state a.disk = 1 then (((S.disk a.disk).read (S.number a)).1, decide (((S.disk a.disk).read (S.number a)).2 = 0)) else ([], false) := rfl
  by_cases h0 : S.number a < 0
  · rw [if_pos h0] at hpk
    rw [hpk]
    have hc := arm_bad p S (pts (w.heap.size + 1) (.cells #[.string ⟨#[]⟩] TString (0, 0)) * (pts w.heap.size (.cells (plA a) TPl (0, 0)) * F)) a true 36 #[ptrV (w.heap.size + 1)] _ (hA.perm (by ac_rfl)) (.inl h0)
    unfold ptrV at hc
    clear hpk h0 hA hS hwf
    go_enter Try.func12, Try.ntmps12
    go_upto_region 3 with (go_at_call 35; refine hc.mono ?_; rintro e w2 ⟨rfl, h2⟩; clear hc)
    have hs2 := h2.out.2.perm (show _ = pts (w.heap.size + 1) (.cells #[.string ⟨#[]⟩] TString (0, 0)) * (pts w.heap.size (.cells (plA a) TPl (0, 0)) * (shelfAt SH p S * F)) from by ac_rfl)
    have c0 : w2.cell? ⟨w.heap.size + 1, 0, none⟩ = some (.string ⟨#[]⟩) := cells_at hs2.block 0
    have HF := Lib.hid hs2.right.right
    clear hs2
    go_wp2
    go_ret2
    exact ⟨rfl, (((Same.refl w).alloc _).alloc _).trans h2.out.1, HF.out⟩
  · rw [if_neg h0] at hpk
    have hn0 : 0 ≤ S.number a := by omega
    have hin := ShelfM.state_in hwf (ShelfM.number_lt hwf hn0).1
    have hc := arm_do p S (pts (w.heap.size + 1) (.cells #[.string ⟨#[]⟩] TString (0, 0)) * (pts w.heap.size (.cells (plA a) TPl (0, 0)) * F)) (pts (w.heap.size + 1) (.cells #[.string (strB ((S.disk a.disk).read (S.number a)).1)] TString (0, 0)) * (pts w.heap.size (.cells (plA a) TPl (0, 0)) * F)) a 36 #[ptrV (w.heap.size + 1)] (S.disk a.disk) ((S.disk a.disk).read (S.number a)).2 cf_peek hn0 (fun _ => rfl)
      (fun _ w' q G h => peek1_any q _ _ _ _ _ G w' h) _ (hA.perm (by ac_rfl))
    unfold ptrV armR ArmOut at hc
    rw [ShelfM.setDisk_self hin.1 hin.2] at hc
    by_cases h1 : S.state a.disk = 1
    · rw [if_pos h1] at hpk
      rw [hpk]
      simp only [if_pos h1] at hc
      obtain ⟨⟨t, k⟩, hr⟩ : ∃ r, (S.disk a.disk).read (S.number a) = r := ⟨_, rfl⟩
      rw [hr] at hc ⊢
      simp only at hc ⊢
      clear hpk h0 hA hS hwf h1 hr hn0 hin
      by_cases hk : k = 0
      · rw [decide_eq_true hk]
        have hkb : (k == 0) = true := by simp [hk]
        clear hk
        go_enter Try.func12, Try.ntmps12
        go_upto_region 3 with (go_at_call 35; refine hc.mono ?_; rintro e w2 ⟨rfl, h2⟩; clear hc)
        have hs2 := h2.out.2.perm (show _ = pts (w.heap.size + 1) (.cells #[.string (strB t)] TString (0, 0)) * (pts w.heap.size (.cells (plA a) TPl (0, 0)) * (shelfAt SH p S * F)) from by ac_rfl)
        have c0 : w2.cell? ⟨w.heap.size + 1, 0, none⟩ = some (.string (strB t)) := cells_at hs2.block 0
        have HF := Lib.hid hs2.right.right
        clear hs2
        go_wp2
        go_ret2
        exact ⟨rfl, (((Same.refl w).alloc _).alloc _).trans h2.out.1, HF.out⟩
      · rw [decide_eq_false hk]
        have hkb : (k == 0) = false := by simp [hk]
        clear hk
        go_enter Try.func12, Try.ntmps12
        go_upto_region 3 with (go_at_call 35; refine hc.mono ?_; rintro e w2 ⟨rfl, h2⟩; clear hc)
        have hs2 := h2.out.2.perm (show _ = pts (w.heap.size + 1) (.cells #[.string (strB t)] TString (0, 0)) * (pts w.heap.size (.cells (plA a) TPl (0, 0)) * (shelfAt SH p S * F)) from by ac_rfl)
        have c0 : w2.cell? ⟨w.heap.size + 1, 0, none⟩ = some (.string (strB t)) := cells_at hs2.block 0
        have HF := Lib.hid hs2.right.right
        clear hs2
        go_wp2
        go_ret2
        exact ⟨rfl, (((Same.refl w).alloc _).alloc _).trans h2.out.1, HF.out⟩
    · rw [if_neg h1] at hpk
      rw [hpk]
      simp only [if_neg h1] at hc
      clear hpk h0 hA hS hwf h1 hn0 hin
      go_enter Try.func12, Try.ntmps12
      go_upto_region 3 with (go_at_call 35; refine hc.mono ?_; rintro e w2 ⟨rfl, h2⟩; clear hc)
      have hs2 := h2.out.2.perm (show _ = pts (w.heap.size + 1) (.cells #[.string ⟨#[]⟩] TString (0, 0)) * (pts w.heap.size (.cells (plA a) TPl (0, 0)) * (shelfAt SH p S * F)) from by ac_rfl)
      have c0 : w2.cell? ⟨w.heap.size + 1, 0, none⟩ = some (.string ⟨#[]⟩) := cells_at hs2.block 0
      have HF := Lib.hid hs2.right.right
      clear hs2
      go_wp2
      go_ret2
      exact ⟨rfl, (((Same.refl w).alloc _).alloc _).trans h2.out.1, HF.out⟩

end Go.Proofs.Ytogmkbhbmmgidaa
