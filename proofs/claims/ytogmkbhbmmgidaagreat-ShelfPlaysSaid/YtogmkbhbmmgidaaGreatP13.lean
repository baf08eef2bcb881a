import Derived.Test.YtogmkbhbmmgidaaGreatP12
import Derived.Test.YtogmkbhbmmgidaaGreatP07
import Derived.Test.YtogmkbhbmmgidaaGreatP05
import Derived.Test.YtogmkbhbmmgidaaGreatP09
/- Part 13 of a proof; the last part says what is proved. -/
section
namespace Go.Proofs.YtogmkbhbmmgidaaGreat
open Go.RowKit Go.Sl Go.ChangeMaps
abbrev TInt : TypeId := 3
abbrev TString : TypeId := 9
def strB (s : List UInt8) : ByteArray := ⟨s.toArray⟩
theorem strB_size (s : List UInt8) : (strB s).size = s.length := by show s.toArray.size = _; simp
theorem cf_write (args : Array Value) (w : World) : (callFunc 59 args).run Tryz.prog w = .ok (.enter 59 args) w := by kernel_rfl
set_option maxHeartbeats 400000 in
theorem flush1_any (q : Nat) (D : DiskM) (G : HProp) (w : World) (hS : Sat w (diskAt TD TS q D * G)) :
    Calls Tryz.prog 61 (#[.agg #[ptrV q, .int .i64 1]] ++ #[]) w fun e w' => e = .returned (.tuple #[]) ∧ Hid (Same w w' ∧ Sat w' (diskAt TD TS q D.flush * G)) := by
  have HS := Lib.hid hS
  clear hS
  show Calls Tryz.prog 61 #[.agg #[ptrV q, .int .i64 1]] w _
  unfold ptrV
  go_enter Tryz.func61, Tryz.ntmps61
  go_wp2_with (go_at_call 62; refine (flush_all q D G _ (HS.out.allocKeep _)).mono ?_; rintro e w' ⟨rfl, h1, h2⟩; have H := Lib.hid (And.intro h1 h2); clear h1 h2)
  first | go_end0 | go_ret
  exact ⟨rfl, ((Same.refl w).alloc _).trans H.out.1, H.out.2⟩
set_option maxHeartbeats 400000 in
theorem write1_any (q nB sB : Nat) (n : Int) (s : List UInt8) (D : DiskM) (F G : HProp) (w : World) (hS : Sat w (diskAt TD TS q D * ((pts nB (.cells #[.int .i64 n] TInt (0, 0)) * (pts sB (.cells #[.string (strB s)] TString (0, 0)) * F)) * G))) :
    Calls Tryz.prog 59 (#[.agg #[ptrV q, .int .i64 1]] ++ #[ptrV nB, ptrV sB]) w fun e w' => e = .returned (.tuple #[]) ∧ Hid (Same w w' ∧ Sat w' (diskAt TD TS q (D.write n s).1 * ((pts nB (.cells #[.int .i64 n] TInt (0, 0)) * (pts sB (.cells #[.string (strB s)] TString (0, 0)) * F)) * G))) := by
  have HS := Lib.hid hS
  have c0 : w.cell? ⟨nB, 0, none⟩ = some (.int .i64 n) := cells_at (hS.perm (show _ = pts nB (.cells #[.int .i64 n] TInt (0, 0)) * (diskAt TD TS q D * (pts sB (.cells #[.string (strB s)] TString (0, 0)) * F * G)) from by ac_rfl)).block 0
  have c1 : w.cell? ⟨sB, 0, none⟩ = some (.string (strB s)) := cells_at (hS.perm (show _ = pts sB (.cells #[.string (strB s)] TString (0, 0)) * (diskAt TD TS q D * (pts nB (.cells #[.int .i64 n] TInt (0, 0)) * F * G)) from by ac_rfl)).block 0
  have l0 := World.block_lt_of_cell? _ _ c0
  have l1 := World.block_lt_of_cell? _ _ c1
  simp only at l0 l1
  clear hS
  show Calls Tryz.prog 59 #[.agg #[ptrV q, .int .i64 1], ptrV nB, ptrV sB] w _
  unfold ptrV
  go_enter Tryz.func59, Tryz.ntmps59
  go_wp2_with (go_at_call 60; refine (write_any q D _ n s _ (HS.out.allocKeep _)).mono ?_; rintro e w' ⟨rfl, h1, h2⟩; have H := Lib.hid (And.intro h1 h2); clear h1 h2)
  first | go_end0 | go_ret
  exact ⟨rfl, ((Same.refl w).alloc _).trans H.out.1, H.out.2⟩
set_option maxHeartbeats 400000 in
theorem sflush_anyV (p : Nat) (S : ShelfM) (vb : Value) (F : HProp) (d : Int) (w : World) (hV : Sat w (shelfV SH p S vb * F)) :
    Calls Tryz.prog 17 #[.pointer (some ⟨p, 0, none⟩), .int .i64 d] w fun e w' => e = .returned (.int .i64 (S.flush d).2) ∧ Hid (Same w w' ∧ Sat w' (shelfV SH p (S.flush d).1 vb * F)) := by
  have hS : Sat w (shelfAt SH p S * F) := shelfAt_V.2 ⟨vb, hV⟩
  have HS := Lib.hid hV
  have hst := state_any p S F d w hS
  have hfl : S.flush d = if S.state d = 0 then (S, 1) else S.step d fun _ => (S.disk d).flush := rfl
  by_cases h0 : S.state d = 0
  · rw [if_pos h0] at hfl
    rw [hfl]; rw [h0] at hst
    clear hfl h0 hS hV
    go_enter Tryz.func17, Tryz.ntmps17
    go_wp2_with (go_at_call 14; refine hst.mono ?_; rintro e w' ⟨rfl, rfl⟩)
    go_ret
    exact ⟨rfl, Same.refl w, HS.out⟩
  · rw [if_neg h0] at hfl
    rw [hfl]
    have hb : (S.state d == 0) = false := by simp [h0]
    have hstep := step_anyV p S vb F d 61 #[] (S.disk d).flush cf_flush rfl h0 (fun _ w' q G h => flush1_any q (S.disk d) (F * G) w' h) w hV
    generalize S.state d = st at *
    clear hfl h0 hS hV
    go_enter Tryz.func17, Tryz.ntmps17
    go_wp2_with (first
      | (go_at_call 14; refine hst.mono ?_; rintro e w' ⟨rfl, rfl⟩)
      | (go_at_call 58; refine hstep.mono ?_; rintro e w2 ⟨rfl, h2⟩))
    go_ret
    exact ⟨rfl, h2⟩
theorem sflush_any (p : Nat) (S : ShelfM) (F : HProp) (d : Int) (w : World) (hS : Sat w (shelfAt SH p S * F)) :
    Calls Tryz.prog 17 #[.pointer (some ⟨p, 0, none⟩), .int .i64 d] w fun e w' => e = .returned (.int .i64 (S.flush d).2) ∧ Hid (Same w w' ∧ Sat w' (shelfAt SH p (S.flush d).1 * F)) := by
  obtain ⟨vb, hV⟩ := shelfAt_V.1 hS
  exact (sflush_anyV p S vb F d w hV).mono fun e w' h => ⟨h.1, h.2.out.1, shelfAt_V.2 ⟨vb, h.2.out.2⟩⟩
set_option maxHeartbeats 400000 in
theorem swrite_bad (p : Nat) (S : ShelfM) (F : HProp) (a : PlaceM) (s : List UInt8) (w : World) (hS : Sat w (shelfAt SH p S * F)) (h : S.number a < 0 ∨ s.length ≠ 64) :
    Calls Tryz.prog 15 #[.pointer (some ⟨p, 0, none⟩), .agg (plA a), .string (strB s)] w fun e w' => e = .returned (.int .i64 1) ∧ Hid (Same w w' ∧ Sat w' (shelfAt SH p S * F)) := by
  have hnum := fun o1 o2 => number_any p S F a ((w.alloc o1).alloc o2) ((hS.allocKeep o1).allocKeep o2)
  replace hnum := hnum (.cells (plA a) TPl) (.cells #[.string (strB s)] TString)
  have hs1 : (strB s).size = s.length := strB_size s
  obtain ⟨b, hb⟩ : ∃ b, strB s = b := ⟨_, rfl⟩
  rw [hb] at hs1 hnum ⊢
  generalize S.number a = x at *
  have HS := Lib.hid hS
  have HB := Lib.hid hb
  clear hS hb
  by_cases h0 : x < 0
  · have hb : decide (x < 0) = true := decide_eq_true h0
    clear h h0
    go_enter Tryz.func15, Tryz.ntmps15
    go_wp2_with (go_at_call 57; refine hnum.mono ?_; rintro e w1 ⟨rfl, hb1⟩; replace HS := Lib.hid (And.intro (((((Same.refl w).alloc _).alloc _).below hb1.out).alloc (.cells #[.int .i64 x] TInt)) ((((HS.out.allocKeep _).allocKeep _).below hb1.out).allocKeep (.cells #[.int .i64 x] TInt))); clear hb1)
    go_ret
    exact ⟨rfl, HS.out⟩
  · have hb : decide (x < 0) = false := decide_eq_false h0
    have hne : s.length ≠ 64 := by rcases h with h | h; exact absurd h h0; exact h
    have hlb : ((b.size : Int) != 64) = true := by rw [bne_iff_ne]; omega
    clear h h0 hs1 hne
    go_enter Tryz.func15, Tryz.ntmps15
    go_upto_region 2 with (go_at_call 57; refine hnum.mono ?_; rintro e w1 ⟨rfl, hb1⟩)
    have hS0 := HS.out
    have hA := ((((hS0.alloc (.cells (plA a) TPl)).alloc (.cells #[.string b] TString)).below hb1.out).alloc (.cells #[.int .i64 x] TInt))
    have hSm := ((((Same.refl w).alloc (.cells (plA a) TPl)).alloc (.cells #[.string b] TString)).below hb1.out).alloc (.cells #[.int .i64 x] TInt)
    rw [World.size_alloc] at hA
    clear hb1 hS0
    generalize w1.alloc (.cells #[.int .i64 x] TInt) = W at hA hSm ⊢
    generalize w1.heap.size = B2 at hA ⊢
    generalize w.heap.size + 1 = B1 at hA ⊢
    generalize w.heap.size = B0 at hA ⊢
    have q2 : W.cell? ⟨B2, 0, none⟩ = some (.int .i64 x) := cells_at hA.block 0
    have q1 : W.cell? ⟨B1, 0, none⟩ = some (.string b) := cells_at hA.right.block 0
    have q0 : W.cell? ⟨B0, 0, none⟩ = some (.int .i64 a.disk) := cells_at hA.right.right.block 0
    have HA := Lib.hid (And.intro hSm hA)
    clear hA hSm
    go_wp2
    go_ret
    exact ⟨rfl, HA.out.1, HA.out.2.right.right.right⟩
set_option maxHeartbeats 400000 in
theorem swrite_do (p : Nat) (S : ShelfM) (F : HProp) (a : PlaceM) (s : List UInt8) (w : World) (hS : Sat w (shelfAt SH p S * F)) (h0 : 0 ≤ S.number a) (hl : s.length = 64) :
    Calls Tryz.prog 15 #[.pointer (some ⟨p, 0, none⟩), .agg (plA a), .string (strB s)] w fun e w' => e = .returned (.int .i64 (S.step a.disk fun D => (D.write (S.number a) s).1).2) ∧ Hid (Same w w' ∧ Sat w' (shelfAt SH p (S.step a.disk fun D => (D.write (S.number a) s).1).1 * F)) := by
  rw [ShelfM.step_const]
  have hnum := fun o1 o2 => number_any p S F a ((w.alloc o1).alloc o2) ((hS.allocKeep o1).allocKeep o2)
  replace hnum := hnum (.cells (plA a) TPl) (.cells #[.string (strB s)] TString)
  have hs1 : (strB s).size = 64 := by rw [strB_size, hl]
  have hst := (ShelfM.number_lt (shelfAt_wf hS) h0).1
  have hstep := fun (nB sB : Nat) (F : HProp) => step_any p S (pts nB (.cells #[.int .i64 (S.number a)] TInt (0, 0)) * (pts sB (.cells #[.string (strB s)] TString (0, 0)) * F)) a.disk 59 #[ptrV nB, ptrV sB] ((S.disk a.disk).write (S.number a) s).1 cf_write (DiskM.write_n _ _ _) hst
    (fun _ w' q G h => write1_any q nB sB _ s _ F G w' h)
  have HSTEP := Lib.hid hstep
  obtain ⟨b, hb⟩ : ∃ b, strB s = b := ⟨_, rfl⟩
  rw [hb] at hs1 hnum ⊢
  obtain ⟨x, hx⟩ : ∃ x, S.number a = x := ⟨_, rfl⟩
  rw [hx] at hnum h0 ⊢
  have HX := Lib.hid hx
  have HB := Lib.hid hb
  have hS0 := hS
  have hbd : decide (x < 0) = false := decide_eq_false (by omega)
  clear hS hb hx hst hstep hl h0
  have HS0 := Lib.hid hS0
  clear hS0
  go_enter Tryz.func15, Tryz.ntmps15
  go_upto_region 2 with (go_at_call 57; refine hnum.mono ?_; rintro e w1 ⟨rfl, hb1⟩)
  have hS0 := HS0.out
  have hA := ((((hS0.alloc (.cells (plA a) TPl)).alloc (.cells #[.string b] TString)).below hb1.out).alloc (.cells #[.int .i64 x] TInt))
  have hSm := ((((Same.refl w).alloc (.cells (plA a) TPl)).alloc (.cells #[.string b] TString)).below hb1.out).alloc (.cells #[.int .i64 x] TInt)
  rw [World.size_alloc] at hA
  clear hb1 hS0
  generalize w1.alloc (.cells #[.int .i64 x] TInt) = W at hA hSm ⊢
  generalize w1.heap.size = B2 at hA ⊢
  generalize w.heap.size + 1 = B1 at hA ⊢
  generalize w.heap.size = B0 at hA ⊢
  have q2 : W.cell? ⟨B2, 0, none⟩ = some (.int .i64 x) := cells_at hA.block 0
  have q1 : W.cell? ⟨B1, 0, none⟩ = some (.string b) := cells_at hA.right.block 0
  have q0 : W.cell? ⟨B0, 0, none⟩ = some (.int .i64 a.disk) := cells_at hA.right.right.block 0
  have HA := Lib.hid (And.intro hSm hA)
  clear hA hSm
  have hlb : ((b.size : Int) != 64) = false := by rw [hs1]; rfl
  have hc := HSTEP.out B2 B1 (pts B0 (.cells (plA a) TPl (0, 0)) * F) W (by rw [HX.out, HB.out]; exact HA.out.2.perm (by ac_rfl))
  unfold ptrV at hc
  go_wp2_with (go_at_call 58; refine hc.mono ?_; rintro e w2 ⟨rfl, h2⟩; clear hc)
  go_ret
  rw [← HX.out]
  exact ⟨rfl, HA.out.1.trans h2.out.1, (h2.out.2.perm (show _ = pts B2 (.cells #[.int .i64 (S.number a)] TInt (0, 0)) * (pts B1 (.cells #[.string (strB s)] TString (0, 0)) * (pts B0 (.cells (plA a) TPl (0, 0)) * (shelfAt SH p _ * F))) from by ac_rfl)).right.right.right⟩
theorem swrite_any (p : Nat) (S : ShelfM) (F : HProp) (a : PlaceM) (s : List UInt8) (w : World) (hS : Sat w (shelfAt SH p S * F)) :
    Calls Tryz.prog 15 #[.pointer (some ⟨p, 0, none⟩), .agg (plA a), .string (strB s)] w fun e w' => e = .returned (.int .i64 (S.write a s).2) ∧ Hid (Same w w' ∧ Sat w' (shelfAt SH p (S.write a s).1 * F)) := by
  by_cases h : S.number a < 0 ∨ s.length ≠ 64
  · have e : S.write a s = (S, 1) := if_pos h
    rw [e]; exact swrite_bad p S F a s w hS h
  · have e : S.write a s = S.step a.disk fun D => (D.write (S.number a) s).1 := if_neg h
    rw [e]; exact swrite_do p S F a s w hS (by omega) (by omega)
end Go.Proofs.YtogmkbhbmmgidaaGreat
end
section
namespace Go.Proofs.YtogmkbhbmmgidaaGreat
open Go.RowKit Go.Sl Go.ChangeMaps
structure FaSt (w : World) (p : Nat) (S : ShelfM) (vb : Value) (F : HProp) (n : Nat) (i : Value) (wr : World) : Prop where
  st : ∃ (k : Nat) (S' : ShelfM), k ≤ n ∧ i = .int .i64 k ∧ S'.bays.length = n ∧ S.flushFrom 0 n = S'.flushFrom k (n - k) ∧ Same w wr ∧ Sat wr (shelfV SH p S' vb * F)
set_option maxHeartbeats 2000000 in
theorem flushAll_any (p : Nat) (S : ShelfM) (F : HProp) (w : World) (hS : Sat w (shelfAt SH p S * F)) :
    Calls Tryz.prog 28 #[.pointer (some ⟨p, 0, none⟩)] w fun e w' => e = .returned (.int .i64 S.flushAll.2) ∧ Hid (Same w w' ∧ Sat w' (shelfAt SH p S.flushAll.1 * F)) := by
  have hwf := shelfAt_wf hS
  obtain ⟨vb, hV⟩ := shelfAt_V.1 hS
  have hn0 : 0 < S.bays.length := by rw [hwf.bays]; have := hwf.cfg.disks; omega
  have hn64 : S.bays.length ≤ 64 := by rw [hwf.bays]; have := hwf.cfg.disks; omega
  obtain ⟨g, cap, q, vi, G, rfl, hs, _, _, _, _, _, _⟩ := shelf_bayV hV (d := 0) hn0
  obtain ⟨⟨q6, q7, q8, q9, q10⟩, hp, hfp, hra⟩ := shelf_cells hs
  have HS := Lib.hid hS
  have HV := Lib.hid hV
  have hfa : S.flushAll = if S.off then (S, 14) else S.flushFrom 0 S.bays.length := rfl
  obtain ⟨n, hnn⟩ : ∃ n, S.bays.length = n := ⟨_, rfl⟩
  rw [hnn] at q6 hn0 hn64 hfa
  have HNN := Lib.hid hnn
  clear hs hS hV hfp hra hwf q7 q9 q10
  cases ho : S.off
  · rw [ho] at q8 hfa
    rw [if_neg (by decide)] at hfa
    rw [hfa]
    clear hfa ho
    go_enter Tryz.func28, Tryz.ntmps28
    go_wp2
    rw [hnn] at HV
    clear hnn
    go_loopw [3, 4, 5, 15] (fun _ _ _ i wr => FaSt w p S (.slice (some ⟨g, 0, none⟩) n cap) F n i wr) (fun _ _ _ i _ => n - (intOf i).toNat)
    case atStart => exact ⟨0, S, by omega, rfl, HNN.out, rfl, Same.refl w, HV.out⟩
    case round =>
      obtain ⟨k, S', hk, rfl, hlen, hff, hsm, hV'⟩ := hrel.st
      clear hrel
      have HH := Lib.hid (And.intro hff (And.intro hsm hV'))
      have HLN := Lib.hid hlen
      by_cases hlt : k < n
      · have hltd : decide ((k : Int) < (n : Int)) = true := decide_eq_true (by omega)
        obtain ⟨g', cap', q', vi', G', hvb, hs', ⟨hpg, hg⟩, b0, b1, hf, _, _⟩ := shelf_bayV hV' (d := k) (by omega)
        simp only [Value.slice.injEq, Option.some.injEq, Addr.mk.injEq, and_true] at hvb
        obtain ⟨rfl, hnl, rfl⟩ := hvb
        clear hnl
        unfold ptrV at b0
        have hfl := ShelfM.flushFrom_lt S' k n hlt
        have HFL := Lib.hid hfl
        obtain ⟨st, hst⟩ : ∃ st, S'.state (k : Int) = st := ⟨_, rfl⟩
        rw [hst] at b1
        have HST := Lib.hid hst
        clear hs' hf hfl hst hff hsm hV' hlen
        by_cases h1 : st = 1
        · subst h1
          go_upto_region 7 with (fail)
          have hc := sflush_anyV p S' (.slice (some ⟨g, 0, none⟩) n cap) F k _ ((HH.out.2.2).allocKeep (.cells #[.pointer (some ⟨q', 0, none⟩), .int .i64 1] TBay))
          obtain ⟨⟨S2, e2⟩, hfl2⟩ : ∃ r, S'.flush (k : Int) = r := ⟨_, rfl⟩
          rw [hfl2] at hc
          have HF2 := Lib.hid hfl2
          simp only at hc
          clear hfl2
          by_cases he : e2 = 0
          · subst he
            go_wp2_with (go_at_call 17; refine hc.mono ?_; rintro e w' ⟨rfl, h2⟩; clear hc)
            go_roundw
            case rel =>
              refine ⟨⟨k + 1, S2, by omega, rfl, ?_, ?_, (HH.out.2.1.alloc _).trans h2.out.1, h2.out.2⟩⟩
              · have := ShelfM.flush_len S' k; rw [HF2.out] at this; rw [← HLN.out]; exact this
              · rw [HH.out.1, HFL.out, if_neg (by rw [HST.out]; decide), HF2.out]; rfl
            case measure => simp only [intOf]; omega
          · have heb : (e2 != 0) = true := by simp [he]
            go_wp2_with (go_at_call 17; refine hc.mono ?_; rintro e w' ⟨rfl, h2⟩; clear hc)
            go_ret
            have hr : S.flushFrom 0 n = (S2, e2) := by rw [HH.out.1, HFL.out, if_neg (by rw [HST.out]; simp), HF2.out, if_pos (by simpa using he)]
            rw [hr]
            exact ⟨rfl, (HH.out.2.1.alloc _).trans h2.out.1, shelfAt_V.2 ⟨_, h2.out.2⟩⟩
        · have h1b : (st != 1) = true := by simp [h1]
          go_wp2
          go_roundw
          case rel =>
            refine ⟨⟨k + 1, S', by omega, rfl, HLN.out, ?_, HH.out.2.1.alloc _, HH.out.2.2.allocKeep _⟩⟩
            rw [HH.out.1, HFL.out, if_pos (by rw [HST.out]; exact h1)]
          case measure => simp only [intOf]; omega
      · have hltd : decide ((k : Int) < (n : Int)) = false := decide_eq_false (by omega)
        have hkn : k = n := by omega
        clear hff hsm hV' hlen
        go_wp2
        go_ret
        have hr : S.flushFrom 0 n = (S', 0) := by rw [HH.out.1, show n - k = 0 by omega]; rfl
        rw [hr]
        exact ⟨rfl, HH.out.2.1, shelfAt_V.2 ⟨_, HH.out.2.2⟩⟩
  · rw [ho] at q8 hfa
    rw [if_pos rfl] at hfa
    rw [hfa]
    clear hfa ho hnn
    go_enter Tryz.func28, Tryz.ntmps28
    go_wp2
    go_ret
    exact ⟨rfl, Same.refl w, HS.out⟩
theorem cutBays_none {b : BayM} {r : List BayM} {l : List Int} (h : b.state ≠ 1) : ShelfM.cutBays (b :: r) l = b :: ShelfM.cutBays r l := by
  show (if b.state = 1 then _ else _) = _
  rw [if_neg h]
theorem cutBays_one {b : BayM} {r : List BayM} {l : List Int} (h : b.state = 1) : ShelfM.cutBays (b :: r) l = ⟨b.disk.cut (l.take b.disk.pending.length), 1⟩ :: ShelfM.cutBays r (l.drop b.disk.pending.length) := by
  show (if b.state = 1 then _ else _) = _
  rw [if_pos h]
theorem infoInt : (Tryz.prog.info? TInt).map (·.size) = some 1 := by kernel_rfl
structure MoSt (w : World) (p : Nat) (S : ShelfM) (vb : Value) (F : HProp) (n : Nat) (picks : List Int) (pv i : Value) (wr : World) : Prop where
  st : ∃ (k : Nat) (dn : List BayM) (pk : List Int), k ≤ n ∧ i = .int .i64 k ∧ dn.length = k ∧ ShelfM.cutBays S.bays picks = dn ++ ShelfM.cutBays (S.bays.drop k) pk ∧ (∀ w', Sat w' F → IntsC w' pv pk) ∧ pk.length ≤ 9223372036854775807 ∧ Same w wr ∧ Sat wr (shelfV SH p { S with bays := dn ++ S.bays.drop k } vb * F)
set_option maxHeartbeats 2000000 in
theorem mount_any (p : Nat) (S : ShelfM) (F : HProp) (pv : Value) (picks : List Int) (w : World) (hS : Sat w (shelfAt SH p S * F)) (hpk : ∀ w', Sat w' F → IntsC w' pv picks) (hpl : picks.length ≤ 9223372036854775807) :
    Calls Tryz.prog 29 #[.pointer (some ⟨p, 0, none⟩), pv] w fun e w' => e = .returned (.tuple #[]) ∧ Hid (Same w w' ∧ Sat w' (shelfAt SH p (S.mount picks) * F)) := by
  have hwf := shelfAt_wf hS
  obtain ⟨vb, hV⟩ := shelfAt_V.1 hS
  have hn0 : 0 < S.bays.length := by rw [hwf.bays]; have := hwf.cfg.disks; omega
  have hn64 : S.bays.length ≤ 64 := by rw [hwf.bays]; have := hwf.cfg.disks; omega
  obtain ⟨g, cap, q, vi, G, rfl, hs, h1, h2, h3, h4, h5, h6⟩ := shelf_bayV hV (d := 0) hn0
  obtain ⟨⟨q6, q7, q8, q9, q10⟩, hp, hfp, hra⟩ := shelf_cells hs
  have HS := Lib.hid hS
  have HV := Lib.hid hV
  have HPK := Lib.hid hpk
  obtain ⟨n, hnn⟩ : ∃ n, S.bays.length = n := ⟨_, rfl⟩
  rw [hnn] at q6 hn0 hn64 HV
  have HNN := Lib.hid hnn
  clear hs hS hV hfp hra hwf q7 q8 q9 q10 h1 h2 h3 h4 h5 h6 hnn hpk
  go_enter Tryz.func29, Tryz.ntmps29
  go_wp2
  go_loopw [1, 5, 6, 12] (fun pv _ _ i wr => MoSt w p S (.slice (some ⟨g, 0, none⟩) n cap) F n picks pv i wr) (fun _ _ _ i _ => n - (intOf i).toNat)
  case atStart => exact ⟨0, [], picks, by omega, rfl, rfl, rfl, HPK.out, hpl, Same.refl w, HV.out⟩
  case round =>
    obtain ⟨k, dn, pk, hk, rfl, hdn, hcb, hpk, hpkl, hsm, hV'⟩ := hrel.st
    clear hrel HPK
    obtain ⟨ao, pc, rfl, _, _⟩ := hpk _ hV'.right
    have HH := Lib.hid (And.intro hcb (And.intro hsm hV'))
    have HPK := Lib.hid hpk
    have HDN := Lib.hid hdn
    by_cases hlt : k < n
    · have hltd : decide ((k : Int) < (n : Int)) = true := decide_eq_true (by omega)
      have hn2 := HNN.out
      have hblen : (dn ++ S.bays.drop k).length = n := by rw [List.length_append, List.length_drop]; omega
      obtain ⟨b, hb⟩ : ∃ b, S.bays[k]? = some b := ⟨_, List.getElem?_eq_getElem (by omega)⟩
      have hdrop : S.bays.drop k = b :: S.bays.drop (k + 1) := by
        rw [List.drop_eq_getElem_cons (by omega)]; congr 1
        rw [List.getElem?_eq_getElem (by omega)] at hb; exact Option.some.inj hb
      have hSb : (dn ++ S.bays.drop k)[k]? = some b := by rw [List.getElem?_append_right (by omega), hdn, Nat.sub_self, hdrop]; rfl
      have hbo := ShelfM.bay_of (S := { S with bays := dn ++ S.bays.drop k }) (d := (k : Int)) (by omega) (by show (k : Int) < ((dn ++ S.bays.drop k).length : Int); omega)
      rw [Int.toNat_natCast] at hbo
      have hbb := hSb.symm.trans hbo
      injection hbb with hbb
      obtain ⟨g', cap', q', vi', G', hvb, hs', ⟨hpg, hg⟩, b0, b1, hf, hcl, h7⟩ := shelf_bayV hV' (d := k) (by show k < (dn ++ S.bays.drop k).length; omega)
      rw [show ({ S with bays := dn ++ S.bays.drop k } : ShelfM).bays.length = n from hblen] at hvb hs' hcl
      simp only [Value.slice.injEq, Option.some.injEq, Addr.mk.injEq, and_true, true_and] at hvb
      obtain ⟨rfl, rfl⟩ := hvb
      have hbs : b.state = ({ S with bays := dn ++ S.bays.drop k } : ShelfM).state k := by rw [hbb]
      have hbd : b.disk = ({ S with bays := dn ++ S.bays.drop k } : ShelfM).disk k := by rw [hbb]
      rw [← hbs] at b1
      rw [← hbd] at hs'
      unfold ptrV at b0
      obtain ⟨st, hst⟩ : ∃ st, b.state = st := ⟨_, rfl⟩
      rw [hst] at b1
      have HB := Lib.hid (And.intro hst (And.intro hbs hdrop))
      have HBD := Lib.hid hbd
      have HSS := Lib.hid hs'
      have HCL := Lib.hid hcl
      have HWF' := Lib.hid (shelfAt_wf (shelfAt_V.2 ⟨_, hV'⟩))
      clear hs' hf hst hsm hV' hdn hcb hpk hcl h7 hbs hbd hbb hbo hSb hdrop hb hblen hn2 HV HS
      by_cases h1 : st = 1
      · subst h1
        have hA := (HSS.out.alloc (.cells #[.pointer (some ⟨q', 0, none⟩), .int .i64 1] TBay)).perm (show _ = diskAt TD TS q' b.disk * (pts wr.heap.size (.cells #[.pointer (some ⟨q', 0, none⟩), .int .i64 1] TBay (0, 0)) * (pts p (.cells (shelfC S.cfg (.slice (some ⟨g, 0, none⟩) n cap) vi' S.off S.fused S.left) TSh (0, 0)) * (F * G'))) from by ac_rfl)
        have hpd := pending_any q' b.disk _ _ hA
        have HA := Lib.hid (And.intro ((HH.out.2.1.alloc (.cells #[.pointer (some ⟨q', 0, none⟩), .int .i64 1] TBay))) hA)
        obtain ⟨pl, hple⟩ : ∃ pl, b.disk.pending.length = pl := ⟨_, rfl⟩
        rw [hple] at hpd
        have HPL := Lib.hid hple
        have hpl2 : pl ≤ 65536 := by
          have h1 : b.disk.pending.length ≤ b.disk.n := by unfold DiskM.pending; exact Nat.le_trans (List.length_filter_le _ _) (by simp)
          have h2 := (diskAt_wf hA).small
          omega
        clear hA hple
        go_upto_region 5 with (go_at_call 71; refine hpd.mono ?_; rintro e w2 ⟨pvv, rfl, hb2, hrow, _⟩; obtain ⟨ao2, pc2, rfl⟩ : ∃ ao2 pc2, pvv = .slice ao2 pl pc2 := by { rcases hrow.2 with ⟨rfl, h0⟩ | ⟨g2, cap2, cur2, rfl, _⟩; exact ⟨_, _, by rw [h0]⟩; exact ⟨_, _, rfl⟩ }; replace HA := Lib.hid (And.intro (HA.out.1.below hb2) (HA.out.2.below hb2)); clear hb2 hrow hpd)
        generalize wr.heap.size = B5 at HA ⊢
        obtain ⟨m, hm⟩ : ∃ m, min pl pk.length = m := ⟨_, rfl⟩
        have hmi : min (pl : Int) (pk.length : Int) = (m : Int) := by omega
        have hm1 : m ≤ pk.length := by omega
        have htk : pk.take b.disk.pending.length = pk.take m := by rw [HPL.out, ← hm]; rw [List.take_eq_take_iff]; omega
        have hdk : pk.drop b.disk.pending.length = pk.drop m := by
          rw [HPL.out, ← hm]
          rcases Nat.le_total pl pk.length with h | h
          · rw [Nat.min_eq_left h]
          · rw [Nat.min_eq_right h, List.drop_eq_nil_of_le h, List.drop_eq_nil_of_le (Nat.le_refl _)]
        rw [hmi]
        have HTD := Lib.hid (And.intro htk hdk)
        have hsF : ∀ (w' : World) (D : DiskM), Sat w' (diskAt TD TS q' D * (pts B5 (.cells #[.pointer (some ⟨q', 0, none⟩), .int .i64 1] TBay (0, 0)) * (pts p (.cells (shelfC S.cfg (.slice (some ⟨g, 0, none⟩) n cap) vi' S.off S.fused S.left) TSh (0, 0)) * (F * G')))) → Sat w' F := fun w' D h => h.right.right.right.left
        obtain ⟨v1, hv1, hvi1⟩ := slice_hi (P := Tryz.prog) (HPK.out _ (hsF _ _ HA.out.2)) hm1 Tryz.underlying43 infoInt
        have HV1 := Lib.hid hv1
        have hcut := cut_any q' b.disk _ v1 (pk.take m) w2.drew HA.out.2.drew (fun w' h => (hvi1 w' (HPK.out w' h.right.right.left)).at)
        have c5 : w2.drew.cell? ⟨B5, 0, none⟩ = some (.pointer (some ⟨q', 0, none⟩)) := cells_at HA.out.2.right.block 0
        clear hm hmi htk hdk hv1 hvi1
        refine reg_begin (fun w' => w'.cell? ⟨B5, 0, none⟩ = some (.pointer (some ⟨q', 0, none⟩))) (by kernel_rfl) ?_
        (apply reg_take 0 rfl rfl (by decide +kernel) rfl); (intro w' hw'; go_simp; rfl); exact c5; simp only [List.setIfInBounds_toArray, List.set_cons_succ, List.set_cons_zero]
        (apply reg_take 1 rfl rfl (by decide +kernel) rfl); (intro w' hw'; go_simp; rfl); exact c5; simp only [List.setIfInBounds_toArray, List.set_cons_succ, List.set_cons_zero]
        (apply reg_take 2 rfl rfl (by decide +kernel) rfl); (intro w' hw'; go_simp; rfl); exact c5; simp only [List.setIfInBounds_toArray, List.set_cons_succ, List.set_cons_zero]
        (apply reg_take 3 rfl rfl (by decide +kernel) rfl); (intro w' hw'; go_simp; rfl); exact c5; simp only [List.setIfInBounds_toArray, List.set_cons_succ, List.set_cons_zero]
        refine reg_take 4 (v := v1) rfl rfl (by decide +kernel) rfl (fun _ _ => exec_slice_run rfl rfl (HV1.out _)) c5 ?_; simp only [List.setIfInBounds_toArray, List.set_cons_succ, List.set_cons_zero]
        refine reg_call 5 rfl rfl (by decide +kernel) rfl (f := 72) (args := #[.pointer (some ⟨q', 0, none⟩), v1]) (R := fun v w' => v = .tuple #[] ∧ Hid (Same w w' ∧ Sat w' (diskAt TD TS q' (b.disk.cut (pk.take m)) * (pts B5 (.cells #[.pointer (some ⟨q', 0, none⟩), .int .i64 1] TBay (0, 0)) * (pts p (.cells (shelfC S.cfg (.slice (some ⟨g, 0, none⟩) n cap) vi' S.off S.fused S.left) TSh (0, 0)) * (F * G')))))) (by kernel_rfl) (hcut.mono fun e w' h => ⟨_, h.1, rfl, HA.out.1.drew.trans h.2.1, h.2.2⟩) ?_
        rintro _ w3 ⟨rfl, h3⟩
        refine ⟨cells_at h3.out.2.right.block 0, ?_⟩
        simp only [List.setIfInBounds_toArray, List.set_cons_succ, List.set_cons_zero]
        refine reg_done (by decide +kernel) ?_
        clear hcut c5
        go_wp2
        go_roundw
        case rel =>
          refine ⟨⟨k + 1, dn ++ [⟨b.disk.cut (pk.take m), 1⟩], pk.drop m, by omega, rfl, by rw [List.length_append, HDN.out]; rfl, ?_, fun w' h => (HPK.out w' h).drop hm1, by rw [List.length_drop]; omega, h3.out.1, ?_⟩⟩
          · rw [HH.out.1, HB.out.2.2, cutBays_one HB.out.1, HTD.out.1, HTD.out.2]; simp
          · have hset : (dn ++ S.bays.drop k).set k ⟨b.disk.cut (pk.take m), 1⟩ = (dn ++ [⟨b.disk.cut (pk.take m), 1⟩]) ++ S.bays.drop (k + 1) := by
              rw [HB.out.2.2, List.set_append_right _ _ (by rw [HDN.out]; exact Nat.le_refl _), HDN.out, Nat.sub_self]; simp
            have hst1 : ({ S with bays := dn ++ S.bays.drop k } : ShelfM).state k = 1 := by rw [← HB.out.2.1]; exact HB.out.1
            have hdb : ({ S with bays := dn ++ S.bays.drop k } : ShelfM).disk k = b.disk := HBD.out.symm
            have hwf2 := HWF'.out.setDisk (d := (k : Int)) (D := b.disk.cut (pk.take m)) (by rw [hst1]; decide) (by rw [hdb]; rfl)
            have h8 := HCL.out w3 (({ S with bays := dn ++ S.bays.drop k } : ShelfM).setDisk k (b.disk.cut (pk.take m))) (b.disk.cut (pk.take m)) F hwf2 rfl rfl rfl
              ((h3.out.2.perm (show _ = pts B5 (.cells #[.pointer (some ⟨q', 0, none⟩), .int .i64 1] TBay (0, 0)) * (pts p (.cells (shelfC S.cfg (.slice (some ⟨g, 0, none⟩) n cap) vi' S.off S.fused S.left) TSh (0, 0)) * (diskAt TD TS q' (b.disk.cut (pk.take m)) * (F * G'))) from by ac_rfl)).right)
            have e9 : (({ S with bays := dn ++ S.bays.drop k } : ShelfM).setDisk k (b.disk.cut (pk.take m))) = { S with bays := (dn ++ [⟨b.disk.cut (pk.take m), 1⟩]) ++ S.bays.drop (k + 1) } := by
              unfold ShelfM.setDisk ShelfM.setBay
              rw [hst1, Int.toNat_natCast, hset]
            rw [e9] at h8
            exact h8
        case measure => simp only [intOf]; omega
      · have h1b : (st == 1) = false := by simp [h1]
        go_wp2
        go_roundw
        case rel =>
          refine ⟨⟨k + 1, dn ++ [b], pk, by omega, rfl, by rw [List.length_append, HDN.out]; rfl, ?_, HPK.out, hpkl, HH.out.2.1.alloc _, ?_⟩⟩
          · rw [HH.out.1, HB.out.2.2, cutBays_none (by rw [HB.out.1]; exact h1)]; simp
          · have := HH.out.2.2.allocKeep (.cells #[.pointer (some ⟨q', 0, none⟩), .int .i64 st] TBay)
            rw [HB.out.2.2] at this
            rw [List.append_assoc]; exact this
        case measure => simp only [intOf]; omega
    · have hltd : decide ((k : Int) < (n : Int)) = false := decide_eq_false (by omega)
      obtain rfl : k = n := by omega
      have e1 : S.bays.drop k = [] := List.drop_eq_nil_of_le (by rw [HNN.out]; exact Nat.le_refl _)
      rw [e1] at hcb hV'
      have hcb2 : ShelfM.cutBays S.bays picks = dn := by rw [hcb]; simp [ShelfM.cutBays]
      rw [List.append_nil, ← hcb2] at hV'
      have hfin : Sat ((wr.setCell ⟨p, 8, none⟩ (.bool false)).setCell ⟨p, 9, none⟩ (.bool false)) (shelfAt SH p (S.mount picks) * F) := by
        have hw := shelfAt_wf (shelfAt_V.2 ⟨_, hV'⟩)
        refine Sat.shelfSet (shelfAt_V.2 ⟨_, hV'⟩) ⟨hw.cfg, hw.bays, hw.st, hw.images, fun h => by cases h⟩ rfl rfl rfl ?_
        rintro _ _ vb vi G rfl rfl h
        exact (h.setCell _).setCell _
      have HF := Lib.hid hfin
      have HSM := Lib.hid hsm
      obtain ⟨_, _, _, _, hs9⟩ := shelfV_iff.1 hV'
      obtain ⟨⟨q6', q7', q8', q9', q10'⟩, hp', hfp', hra'⟩ := shelf_cells hs9
      clear hsm hV' hdn hcb hpk e1 hcb2 hfin hs9 hra'
      go_wp2
      first | go_end0 | go_ret
      exact ⟨rfl, (HSM.out.setCell _ _).setCell _ _, HF.out⟩
end Go.Proofs.YtogmkbhbmmgidaaGreat
end
section
namespace Go.Proofs.YtogmkbhbmmgidaaGreat
open Go.RowKit Go.Sl Go.ChangeMaps
set_option maxHeartbeats 400000 in
theorem within_any (n lo hi : Int) (w : World) : Calls Tryz.prog 63 #[.int .i64 n, .int .i64 lo, .int .i64 hi] w fun e w' => e = .returned (.bool (inB n lo hi)) ∧ w = w' := by
  by_cases h : lo ≤ n
  · have hb : inB n lo hi = decide (n ≤ hi) := by unfold inB; rw [decide_eq_true h]; rfl
    rw [hb]
    have hd : decide (lo ≤ n) = true := decide_eq_true h
    clear h hb
    go_enter Tryz.func63, Tryz.ntmps63
    go_wp2
    go_ret
    exact ⟨rfl, rfl⟩
  · have hb : inB n lo hi = false := by unfold inB; rw [decide_eq_false h]; rfl
    rw [hb]
    have hd : decide (lo ≤ n) = false := decide_eq_false h
    clear h hb
    go_enter Tryz.func63, Tryz.ntmps63
    go_wp2
    go_ret
    exact ⟨rfl, rfl⟩
set_option maxHeartbeats 8000000 in
theorem check_any (c : CfgM) (w : World) : Calls Tryz.prog 19 #[.agg (cfgA c)] w fun e w' => e = .returned (.int .i64 (if c.ok = true then 0 else 1)) ∧ Below w.heap.size w w' := by
  have hok : c.ok = (inB c.disks 1 64 && inB c.racks 1 8 && inB c.rows 1 4096 && inB c.spare 0 (c.disks - 1) && inB c.log 1 65536 && inB c.image 1 65536 && decide (c.disks % c.racks = 0)) := rfl
  cases h1 : inB c.disks 1 64
  case false =>
    have he : c.ok = false := by rw [hok]; simp [h1]
    rw [he]
    clear he hok
    go_enter Tryz.func19, Tryz.ntmps19
    go_wp2_with (go_at_call 63; refine (within_any _ _ _ _).mono ?_; rintro e w' ⟨rfl, rfl⟩)
    go_ret
    exact ⟨rfl, (Below.refl _ _).alloc (Nat.le_refl _) _⟩
  have hd := h1; unfold inB at hd; simp only [Bool.and_eq_true, decide_eq_true_eq] at hd
  have hd1 := hd.1; have hd2 := hd.2; clear hd
  cases h2 : inB c.racks 1 8
  case false =>
    have he : c.ok = false := by rw [hok]; simp [h2]
    rw [he]
    clear he hok
    go_enter Tryz.func19, Tryz.ntmps19
    go_wp2_with (go_at_call 63; refine (within_any _ _ _ _).mono ?_; rintro e w' ⟨rfl, rfl⟩)
    go_ret
    exact ⟨rfl, (Below.refl _ _).alloc (Nat.le_refl _) _⟩
  have hr := h2; unfold inB at hr; simp only [Bool.and_eq_true, decide_eq_true_eq] at hr
  have hr1 := hr.1; have hr2 := hr.2; clear hr
  cases h3 : inB c.rows 1 4096
  case false =>
    have he : c.ok = false := by rw [hok]; simp [h3]
    rw [he]
    clear he hok
    go_enter Tryz.func19, Tryz.ntmps19
    go_wp2_with (go_at_call 63; refine (within_any _ _ _ _).mono ?_; rintro e w' ⟨rfl, rfl⟩)
    go_ret
    exact ⟨rfl, (Below.refl _ _).alloc (Nat.le_refl _) _⟩
  cases h4 : inB c.spare 0 (c.disks - 1)
  case false =>
    have he : c.ok = false := by rw [hok]; simp [h4]
    rw [he]
    clear he hok
    go_enter Tryz.func19, Tryz.ntmps19
    go_wp2_with (go_at_call 63; refine (within_any _ _ _ _).mono ?_; rintro e w' ⟨rfl, rfl⟩)
    go_ret
    exact ⟨rfl, (Below.refl _ _).alloc (Nat.le_refl _) _⟩
  cases h5 : inB c.log 1 65536
  case false =>
    have he : c.ok = false := by rw [hok]; simp [h5]
    rw [he]
    clear he hok
    go_enter Tryz.func19, Tryz.ntmps19
    go_wp2_with (go_at_call 63; refine (within_any _ _ _ _).mono ?_; rintro e w' ⟨rfl, rfl⟩)
    go_ret
    exact ⟨rfl, (Below.refl _ _).alloc (Nat.le_refl _) _⟩
  cases h6 : inB c.image 1 65536
  case false =>
    have he : c.ok = false := by rw [hok]; simp [h6]
    rw [he]
    clear he hok
    go_enter Tryz.func19, Tryz.ntmps19
    go_wp2_with (go_at_call 63; refine (within_any _ _ _ _).mono ?_; rintro e w' ⟨rfl, rfl⟩)
    go_ret
    exact ⟨rfl, (Below.refl _ _).alloc (Nat.le_refl _) _⟩
  by_cases h7 : c.disks % c.racks = 0
  · have he : c.ok = true := by rw [hok]; simp [h1, h2, h3, h4, h5, h6, h7]
    rw [he]
    have h7' : (c.disks % c.racks != 0) = false := by simp [h7]
    clear he hok h7
    go_enter Tryz.func19, Tryz.ntmps19
    go_wp2_with (go_at_call 63; refine (within_any _ _ _ _).mono ?_; rintro e w' ⟨rfl, rfl⟩)
    go_ret
    exact ⟨rfl, (Below.refl _ _).alloc (Nat.le_refl _) _⟩
  · have he : c.ok = false := by rw [hok]; simp [h1, h2, h3, h4, h5, h6, h7]
    rw [he]
    have h7' : (c.disks % c.racks != 0) = true := by simp [h7]
    clear he hok h7
    go_enter Tryz.func19, Tryz.ntmps19
    go_wp2_with (go_at_call 63; refine (within_any _ _ _ _).mono ?_; rintro e w' ⟨rfl, rfl⟩)
    go_ret
    exact ⟨rfl, (Below.refl _ _).alloc (Nat.le_refl _) _⟩
end Go.Proofs.YtogmkbhbmmgidaaGreat
end
