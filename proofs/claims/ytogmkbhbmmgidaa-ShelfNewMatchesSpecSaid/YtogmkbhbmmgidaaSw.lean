/- shelf.Write, Read, Flush, Rot, Lose, Misdirect, Peek. -/
import Derived.Test.YtogmkbhbmmgidaaSt
import Derived.Test.YtogmkbhbmmgidaaDz
namespace Go.Proofs.Ytogmkbhbmmgidaa
open Go.RowKit Go.Sl Go.ChangeMaps

abbrev TInt : TypeId := 3
abbrev TString : TypeId := 9
def strB (s : List UInt8) : ByteArray := ⟨s.toArray⟩
theorem strB_size (s : List UInt8) : (strB s).size = s.length := by show s.toArray.size = _; simp

theorem cf_write (args : Array Value) (w : World) : (callFunc 52 args).run Try.prog w = .ok (.enter 52 args) w := by kernel_rfl

set_option maxHeartbeats 400000 in
theorem flush1_any (q : Nat) (D : DiskM) (G : HProp) (w : World) (hS : Sat w (diskAt TD TS q D * G)) :
    Calls Try.prog 48 (#[.agg #[ptrV q, .int .i64 1]] ++ #[]) w fun e w' => e = .returned (.tuple #[]) ∧ Hid (Same w w' ∧ Sat w' (diskAt TD TS q D.flush * G)) := by
  have HS := Lib.hid hS
  clear hS
  show Calls Try.prog 48 #[.agg #[ptrV q, .int .i64 1]] w _
  unfold ptrV
  go_enter Try.func48, Try.ntmps48
  go_wp2_with (go_at_call 49; refine (flush_all q D G _ (HS.out.allocKeep _)).mono ?_; rintro e w' ⟨rfl, h1, h2⟩; have H := Lib.hid (And.intro h1 h2); clear h1 h2)
  first | go_end0 | go_ret
  exact ⟨rfl, ((Same.refl w).alloc _).trans H.out.1, H.out.2⟩

set_option maxHeartbeats 400000 in
theorem write1_any (q nB sB : Nat) (n : Int) (s : List UInt8) (D : DiskM) (F G : HProp) (w : World) (hS : Sat w (diskAt TD TS q D * ((pts nB (.cells #[.int .i64 n] TInt (0, 0)) * (pts sB (.cells #[.string (strB s)] TString (0, 0)) * F)) * G))) :
    Calls Try.prog 52 (#[.agg #[ptrV q, .int .i64 1]] ++ #[ptrV nB, ptrV sB]) w fun e w' => e = .returned (.tuple #[]) ∧ Hid (Same w w' ∧ Sat w' (diskAt TD TS q (D.write n s).1 * ((pts nB (.cells #[.int .i64 n] TInt (0, 0)) * (pts sB (.cells #[.string (strB s)] TString (0, 0)) * F)) * G))) := by
  have HS := Lib.hid hS
  have c0 : w.cell? ⟨nB, 0, none⟩ = some (.int .i64 n) := cells_at (hS.perm (show _ = pts nB (.cells #[.int .i64 n] TInt (0, 0)) * (diskAt TD TS q D * (pts sB (.cells #[.string (strB s)] TString (0, 0)) * F * G)) from by ac_rfl)).block 0
  have c1 : w.cell? ⟨sB, 0, none⟩ = some (.string (strB s)) := cells_at (hS.perm (show _ = pts sB (.cells #[.string (strB s)] TString (0, 0)) * (diskAt TD TS q D * (pts nB (.cells #[.int .i64 n] TInt (0, 0)) * F * G)) from by ac_rfl)).block 0
  have l0 := World.block_lt_of_cell? _ _ c0
  have l1 := World.block_lt_of_cell? _ _ c1
  simp only at l0 l1
  clear hS
  show Calls Try.prog 52 #[.agg #[ptrV q, .int .i64 1], ptrV nB, ptrV sB] w _
  unfold ptrV
  go_enter Try.func52, Try.ntmps52
  go_wp2_with (go_at_call 53; refine (write_any q D _ n s _ (HS.out.allocKeep _)).mono ?_; rintro e w' ⟨rfl, h1, h2⟩; have H := Lib.hid (And.intro h1 h2); clear h1 h2)
  first | go_end0 | go_ret
  exact ⟨rfl, ((Same.refl w).alloc _).trans H.out.1, H.out.2⟩

set_option maxHeartbeats 400000 in
theorem sflush_anyV (p : Nat) (S : ShelfM) (vb : Value) (F : HProp) (d : Int) (w : World) (hV : Sat w (shelfV SH p S vb * F)) :
    Calls Try.prog 19 #[.pointer (some ⟨p, 0, none⟩), .int .i64 d] w fun e w' => e = .returned (.int .i64 (S.flush d).2) ∧ Hid (Same w w' ∧ Sat w' (shelfV SH p (S.flush d).1 vb * F)) := by
  have hS : Sat w (shelfAt SH p S * F) := shelfAt_V.2 ⟨vb, hV⟩
  have HS := Lib.hid hV
  have hst := state_any p S F d w hS
  have hfl : S.flush d = if S.state d = 0 then (S, 1) else S.step d fun _ => (S.disk d).flush := rfl
  by_cases h0 : S.state d = 0
  · rw [if_pos h0] at hfl
    rw [hfl]; rw [h0] at hst
    clear hfl h0 hS hV
    go_enter Try.func19, Try.ntmps19
    go_wp2_with (go_at_call 16; refine hst.mono ?_; rintro e w' ⟨rfl, rfl⟩)
    go_ret
    exact ⟨rfl, Same.refl w, HS.out⟩
  · rw [if_neg h0] at hfl
    rw [hfl]
    have hb : (S.state d == 0) = false := by simp [h0]
    have hstep := step_anyV p S vb F d 48 #[] (S.disk d).flush cf_flush rfl h0 (fun _ w' q G h => flush1_any q (S.disk d) (F * G) w' h) w hV
    generalize S.state d = st at *
    clear hfl h0 hS hV
    go_enter Try.func19, Try.ntmps19
    go_wp2_with (first
      | (go_at_call 16; refine hst.mono ?_; rintro e w' ⟨rfl, rfl⟩)
      | (go_at_call 47; refine hstep.mono ?_; rintro e w2 ⟨rfl, h2⟩))
    go_ret
    exact ⟨rfl, h2⟩
theorem sflush_any (p : Nat) (S : ShelfM) (F : HProp) (d : Int) (w : World) (hS : Sat w (shelfAt SH p S * F)) :
    Calls Try.prog 19 #[.pointer (some ⟨p, 0, none⟩), .int .i64 d] w fun e w' => e = .returned (.int .i64 (S.flush d).2) ∧ Hid (Same w w' ∧ Sat w' (shelfAt SH p (S.flush d).1 * F)) := by
  obtain ⟨vb, hV⟩ := shelfAt_V.1 hS
  exact (sflush_anyV p S vb F d w hV).mono fun e w' h => ⟨h.1, h.2.out.1, shelfAt_V.2 ⟨vb, h.2.out.2⟩⟩

set_option maxHeartbeats 400000 in
theorem swrite_bad (p : Nat) (S : ShelfM) (F : HProp) (a : PlaceM) (s : List UInt8) (w : World) (hS : Sat w (shelfAt SH p S * F)) (h : S.number a < 0 ∨ s.length ≠ 64) :
    Calls Try.prog 23 #[.pointer (some ⟨p, 0, none⟩), .agg (plA a), .string (strB s)] w fun e w' => e = .returned (.int .i64 1) ∧ Hid (Same w w' ∧ Sat w' (shelfAt SH p S * F)) := by
  have hnum := fun o1 o2 => number_any p S F a ((w.alloc o1).alloc o2) ((hS.allocKeep o1).allocKeep o2)
  replace hnum := hnum (.cells (plA a) TPl) (.cells #[.string (strB s)] TString)
  have hs1 : (strB s).size = s.length := strB_size s
  obtain ⟨b, hb⟩ : ∃ b, strB s = b := ⟨_, rfl⟩
  rw [hb] at hs1 hnum ⊢
  generalize S.number a = x at *
  have HS := Lib.hid hS
  have HB := Lib.hid hb
  clear hS hb
  by_cases h0 : x < 0
  · have hb : decide (x < 0) = true := decide_eq_true h0
    clear h h0
    go_enter Try.func23, Try.ntmps23
    go_wp2_with (go_at_call 50; refine hnum.mono ?_; rintro e w1 ⟨rfl, hb1⟩; replace HS := Lib.hid (And.intro (((((Same.refl w).alloc _).alloc _).below hb1.out).alloc (.cells #[.int .i64 x] TInt)) ((((HS.out.allocKeep _).allocKeep _).below hb1.out).allocKeep (.cells #[.int .i64 x] TInt))); clear hb1)
    go_ret
    exact ⟨rfl, HS.out⟩
  · have hb : decide (x < 0) = false := decide_eq_false h0
    have hne : s.length ≠ 64 := by rcases h with h | h; exact absurd h h0; exact h
    have hlb : ((b.size : Int) != 64) = true := by rw [bne_iff_ne]; omega
    clear h h0 hs1 hne
    go_enter Try.func23, Try.ntmps23
    go_upto_region 2 with (go_at_call 50; refine hnum.mono ?_; rintro e w1 ⟨rfl, hb1⟩)
    have hS0 := HS.out
    have hA := ((((hS0.alloc (.cells (plA a) TPl)).alloc (.cells #[.string b] TString)).below hb1.out).alloc (.cells #[.int .i64 x] TInt))
    have hSm := ((((Same.refl w).alloc (.cells (plA a) TPl)).alloc (.cells #[.string b] TString)).below hb1.out).alloc (.cells #[.int .i64 x] TInt)
    rw [World.size_alloc] at hA
    clear hb1 hS0
    generalize w1.alloc (.cells #[.int .i64 x] TInt) = W at hA hSm ⊢
    generalize w1.heap.size = B2 at hA ⊢
    generalize w.heap.size + 1 = B1 at hA ⊢
    generalize w.heap.size = B0 at hA ⊢
    have q2 : W.cell? ⟨B2, 0, none⟩ = some (.int .i64 x) := cells_at hA.block 0
    have q1 : W.cell? ⟨B1, 0, none⟩ = some (.string b) := cells_at hA.right.block 0
    have q0 : W.cell? ⟨B0, 0, none⟩ = some (.int .i64 a.disk) := cells_at hA.right.right.block 0
    have HA := Lib.hid (And.intro hSm hA)
    clear hA hSm
    go_wp2
    go_ret
    exact ⟨rfl, HA.out.1, HA.out.2.right.right.right⟩

set_option maxHeartbeats 400000 in
theorem swrite_do (p : Nat) (S : ShelfM) (F : HProp) (a : PlaceM) (s : List UInt8) (w : World) (hS : Sat w (shelfAt SH p S * F)) (h0 : 0 ≤ S.number a) (hl : s.length = 64) :
    Calls Try.prog 23 #[.pointer (some ⟨p, 0, none⟩), .agg (plA a), .string (strB s)] w fun e w' => e = .returned (.int .i64 (S.step a.disk fun D => (D.write (S.number a) s).1).2) ∧ Hid (Same w w' ∧ Sat w' (shelfAt SH p (S.step a.disk fun D => (D.write (S.number a) s).1).1 * F)) := by
  rw [ShelfM.step_const]
  have hnum := fun o1 o2 => number_any p S F a ((w.alloc o1).alloc o2) ((hS.allocKeep o1).allocKeep o2)
  replace hnum := hnum (.cells (plA a) TPl) (.cells #[.string (strB s)] TString)
  have hs1 : (strB s).size = 64 := by rw [strB_size, hl]
  have hst := (ShelfM.number_lt (shelfAt_wf hS) h0).1
  have hstep := fun (nB sB : Nat) (F : HProp) => step_any p S (pts nB (.cells #[.int .i64 (S.number a)] TInt (0, 0)) * (pts sB (.cells #[.string (strB s)] TString (0, 0)) * F)) a.disk 52 #[ptrV nB, ptrV sB] ((S.disk a.disk).write (S.number a) s).1 cf_write (DiskM.write_n _ _ _) hst
    (fun _ w' q G h => write1_any q nB sB _ s _ F G w' h)
  have HSTEP := Lib.hid hstep
  obtain ⟨b, hb⟩ : ∃ b, strB s = b := ⟨_, rfl⟩
  rw [hb] at hs1 hnum ⊢
  obtain ⟨x, hx⟩ : ∃ x, S.number a = x := ⟨_, rfl⟩
  rw [hx] at hnum h0 ⊢
  have HX := Lib.hid hx
  have HB := Lib.hid hb
  have hS0 := hS
  have hbd : decide (x < 0) = false := decide_eq_false (by omega)
  clear hS hb hx hst hstep hl h0
  have HS0 := Lib.hid hS0
  clear hS0
  go_enter Try.func23, Try.ntmps23
  go_upto_region 2 with (go_at_call 50; refine hnum.mono ?_; rintro e w1 ⟨rfl, hb1⟩)
  have hS0 := HS0.out
  have hA := ((((hS0.alloc (.cells (plA a) TPl)).alloc (.cells #[.string b] TString)).below hb1.out).alloc (.cells #[.int .i64 x] TInt))
  have hSm := ((((Same.refl w).alloc (.cells (plA a) TPl)).alloc (.cells #[.string b] TString)).below hb1.out).alloc (.cells #[.int .i64 x] TInt)
  rw [World.size_alloc] at hA
  clear hb1 hS0
  generalize w1.alloc (.cells #[.int .i64 x] TInt) = W at hA hSm ⊢
  generalize w1.heap.size = B2 at hA ⊢
  generalize w.heap.size + 1 = B1 at hA ⊢
  generalize w.heap.size = B0 at hA ⊢
  have q2 : W.cell? ⟨B2, 0, none⟩ = some (.int .i64 x) := cells_at hA.block 0
  have q1 : W.cell? ⟨B1, 0, none⟩ = some (.string b) := cells_at hA.right.block 0
  have q0 : W.cell? ⟨B0, 0, none⟩ = some (.int .i64 a.disk) := cells_at hA.right.right.block 0
  have HA := Lib.hid (And.intro hSm hA)
  clear hA hSm
  have hlb : ((b.size : Int) != 64) = false := by rw [hs1]; rfl
  have hc := HSTEP.out B2 B1 (pts B0 (.cells (plA a) TPl (0, 0)) * F) W (by rw [HX.out, HB.out]; exact HA.out.2.perm (by ac_rfl))
  unfold ptrV at hc
  go_wp2_with (go_at_call 47; refine hc.mono ?_; rintro e w2 ⟨rfl, h2⟩; clear hc)
  go_ret
  rw [← HX.out]
  exact ⟨rfl, HA.out.1.trans h2.out.1, (h2.out.2.perm (show _ = pts B2 (.cells #[.int .i64 (S.number a)] TInt (0, 0)) * (pts B1 (.cells #[.string (strB s)] TString (0, 0)) * (pts B0 (.cells (plA a) TPl (0, 0)) * (shelfAt SH p _ * F))) from by ac_rfl)).right.right.right⟩

theorem swrite_any (p : Nat) (S : ShelfM) (F : HProp) (a : PlaceM) (s : List UInt8) (w : World) (hS : Sat w (shelfAt SH p S * F)) :
    Calls Try.prog 23 #[.pointer (some ⟨p, 0, none⟩), .agg (plA a), .string (strB s)] w fun e w' => e = .returned (.int .i64 (S.write a s).2) ∧ Hid (Same w w' ∧ Sat w' (shelfAt SH p (S.write a s).1 * F)) := by
  by_cases h : S.number a < 0 ∨ s.length ≠ 64
  · have e : S.write a s = (S, 1) := if_pos h
    rw [e]; exact swrite_bad p S F a s w hS h
  · have e : S.write a s = S.step a.disk fun D => (D.write (S.number a) s).1 := if_neg h
    rw [e]; exact swrite_do p S F a s w hS (by omega) (by omega)

end Go.Proofs.Ytogmkbhbmmgidaa
