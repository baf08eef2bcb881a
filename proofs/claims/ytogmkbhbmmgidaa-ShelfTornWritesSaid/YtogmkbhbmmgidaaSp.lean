/- shelf.Rot, Lose, Misdirect, Peek, Read. -/
import Derived.Test.YtogmkbhbmmgidaaSw
namespace Go.Proofs.Ytogmkbhbmmgidaa
open Go.RowKit Go.Sl Go.ChangeMaps

theorem arm_all (p : Nat) (S : ShelfM) (F : HProp) (a : PlaceM) (valid : Bool) (f : DiskM → Int → DiskM × Int) (fid : FuncId) (cap : Array Value) (hcf : ∀ args w, (callFunc fid args).run Try.prog w = .ok (.enter fid args) w) (hn : ∀ D n, (f D n).1.n = D.n)
    (hex : ∀ D w' q G, Sat w' (diskAt TD TS q D * (F * G)) → Calls Try.prog fid (#[.agg #[ptrV q, .int .i64 1], .int .i64 (S.number a)] ++ cap) w' fun e w'' => e = .returned (.int .i64 (f D (S.number a)).2) ∧ Hid (Same w' w'' ∧ Sat w'' (diskAt TD TS q (f D (S.number a)).1 * (F * G))))
    (w : World) (hS : Sat w (shelfAt SH p S * F)) :
    Calls Try.prog 35 #[.pointer (some ⟨p, 0, none⟩), .agg (plA a), .bool valid, .func (.func fid) #[] cap] w fun e w' => e = .returned (.int .i64 (S.arm a valid f).2) ∧ Hid (Same w w' ∧ Sat w' (shelfAt SH p (S.arm a valid f).1 * F)) := by
  by_cases h : S.number a < 0 ∨ valid = false
  · rw [ShelfM.arm_eq_bad S a f valid h]; exact arm_bad p S F a valid fid cap w hS h
  · have hv : valid = true := by cases valid; exact absurd (.inr rfl) h; rfl
    subst hv
    have h0 : 0 ≤ S.number a := by omega
    rw [ShelfM.arm_eq S a f h0 true rfl]
    refine (arm_do p S F F a fid cap (f (S.disk a.disk) (S.number a)).1 (f (S.disk a.disk) (S.number a)).2 hcf h0 (fun _ => hn _ _) (fun _ w' q G h => hex _ w' q G h) w hS).mono ?_
    rintro e w' ⟨rfl, h2⟩
    unfold armR
    have h3 := h2.out.2
    unfold ArmOut at h3
    by_cases h1 : S.state a.disk = 1
    · rw [if_pos h1] at h3 ⊢; rw [if_pos h1]; exact ⟨rfl, h2.out.1, h3⟩
    · rw [if_neg h1] at h3 ⊢; rw [if_neg h1]; exact ⟨rfl, h2.out.1, h3⟩

set_option maxHeartbeats 400000 in
theorem rot1_any (q bB : Nat) (n bit : Int) (D : DiskM) (F G : HProp) (w : World) (hS : Sat w (diskAt TD TS q D * ((pts bB (.cells #[.int .i64 bit] TInt (0, 0)) * F) * G))) :
    Calls Try.prog 71 (#[.agg #[ptrV q, .int .i64 1], .int .i64 n] ++ #[ptrV bB]) w fun e w' => e = .returned (.int .i64 (D.rot n bit).2) ∧ Hid (Same w w' ∧ Sat w' (diskAt TD TS q (D.rot n bit).1 * ((pts bB (.cells #[.int .i64 bit] TInt (0, 0)) * F) * G))) := by
  have HS := Lib.hid hS
  have c0 : w.cell? ⟨bB, 0, none⟩ = some (.int .i64 bit) := cells_at (hS.perm (show _ = pts bB (.cells #[.int .i64 bit] TInt (0, 0)) * (diskAt TD TS q D * (F * G)) from by ac_rfl)).block 0
  have l0 := World.block_lt_of_cell? _ _ c0
  simp only at l0
  clear hS
  show Calls Try.prog 71 #[.agg #[ptrV q, .int .i64 1], .int .i64 n, ptrV bB] w _
  unfold ptrV
  go_enter Try.func71, Try.ntmps71
  go_wp2_with (go_at_call 72; refine (rot_all q D _ n bit _ (HS.out.allocKeep _)).mono ?_; rintro e w' ⟨rfl, h1, h2⟩; have H := Lib.hid (And.intro h1 h2); clear h1 h2)
  go_ret
  exact ⟨rfl, ((Same.refl w).alloc _).trans H.out.1, H.out.2⟩

set_option maxHeartbeats 400000 in
theorem lose1_any (q : Nat) (n : Int) (D : DiskM) (G : HProp) (w : World) (hS : Sat w (diskAt TD TS q D * G)) :
    Calls Try.prog 73 (#[.agg #[ptrV q, .int .i64 1], .int .i64 n] ++ #[]) w fun e w' => e = .returned (.int .i64 (D.lose n).2) ∧ Hid (Same w w' ∧ Sat w' (diskAt TD TS q (D.lose n).1 * G)) := by
  have HS := Lib.hid hS
  clear hS
  show Calls Try.prog 73 #[.agg #[ptrV q, .int .i64 1], .int .i64 n] w _
  unfold ptrV
  go_enter Try.func73, Try.ntmps73
  go_wp2_with (go_at_call 74; refine (lose_any q D _ n _ (HS.out.allocKeep _)).mono ?_; rintro e w' ⟨rfl, h1, h2⟩; have H := Lib.hid (And.intro h1 h2); clear h1 h2)
  go_ret
  exact ⟨rfl, ((Same.refl w).alloc _).trans H.out.1, H.out.2⟩

set_option maxHeartbeats 400000 in
theorem mis1_any (q bB : Nat) (n bit : Int) (D : DiskM) (F G : HProp) (w : World) (hS : Sat w (diskAt TD TS q D * ((pts bB (.cells #[.int .i64 bit] TInt (0, 0)) * F) * G))) :
    Calls Try.prog 75 (#[.agg #[ptrV q, .int .i64 1], .int .i64 n] ++ #[ptrV bB]) w fun e w' => e = .returned (.int .i64 (D.misdirect n bit).2) ∧ Hid (Same w w' ∧ Sat w' (diskAt TD TS q (D.misdirect n bit).1 * ((pts bB (.cells #[.int .i64 bit] TInt (0, 0)) * F) * G))) := by
  have HS := Lib.hid hS
  have c0 : w.cell? ⟨bB, 0, none⟩ = some (.int .i64 bit) := cells_at (hS.perm (show _ = pts bB (.cells #[.int .i64 bit] TInt (0, 0)) * (diskAt TD TS q D * (F * G)) from by ac_rfl)).block 0
  have l0 := World.block_lt_of_cell? _ _ c0
  simp only at l0
  clear hS
  show Calls Try.prog 75 #[.agg #[ptrV q, .int .i64 1], .int .i64 n, ptrV bB] w _
  unfold ptrV
  go_enter Try.func75, Try.ntmps75
  go_wp2_with (go_at_call 76; refine (misdirect_any q D _ n bit _ (HS.out.allocKeep _)).mono ?_; rintro e w' ⟨rfl, h1, h2⟩; have H := Lib.hid (And.intro h1 h2); clear h1 h2)
  go_ret
  exact ⟨rfl, ((Same.refl w).alloc _).trans H.out.1, H.out.2⟩

set_option maxHeartbeats 400000 in
theorem srot_any (p : Nat) (S : ShelfM) (F : HProp) (a : PlaceM) (bit : Int) (w : World) (hS : Sat w (shelfAt SH p S * F)) :
    Calls Try.prog 63 #[.pointer (some ⟨p, 0, none⟩), .agg (plA a), .int .i64 bit] w fun e w' => e = .returned (.int .i64 (S.rot a bit).2) ∧ Hid (Same w w' ∧ Sat w' (shelfAt SH p (S.rot a bit).1 * F)) := by
  have hA := ((hS.alloc (.cells (plA a) TPl)).alloc (.cells #[.int .i64 bit] TInt))
  rw [World.size_alloc] at hA
  have HA := Lib.hid hA
  have hc := fun valid => arm_all p S (pts (w.heap.size + 1) (.cells #[.int .i64 bit] TInt (0, 0)) * (pts w.heap.size (.cells (plA a) TPl (0, 0)) * F)) a valid (fun D n => D.rot n bit) 71 #[ptrV (w.heap.size + 1)] cf_rot (fun D n => DiskM.rot_n _ _ _)
    (fun D w' q G h => rot1_any q _ _ bit D _ G w' h) _ (hA.perm (by ac_rfl))
  have hr : S.rot a bit = S.arm a (decide (0 ≤ bit) && decide (bit < 512)) fun D n => D.rot n bit := rfl
  rw [hr]
  replace hc := hc (decide (0 ≤ bit) && decide (bit < 512))
  unfold ptrV at hc
  clear hS hA hr
  have fin : ∀ (w2 : World) (S' : ShelfM), Hid (Same ((w.alloc (.cells (plA a) TPl)).alloc (.cells #[.int .i64 bit] TInt)) w2 ∧ Sat w2 (shelfAt SH p S' * (pts (w.heap.size + 1) (.cells #[.int .i64 bit] TInt (0, 0)) * (pts w.heap.size (.cells (plA a) TPl (0, 0)) * F)))) → Hid (Same w w2 ∧ Sat w2 (shelfAt SH p S' * F)) :=
    fun w2 S' h => ⟨(((Same.refl w).alloc _).alloc _).trans h.out.1, (h.out.2.perm (show _ = pts (w.heap.size + 1) (.cells #[.int .i64 bit] TInt (0, 0)) * (pts w.heap.size (.cells (plA a) TPl (0, 0)) * (shelfAt SH p S' * F)) from by ac_rfl)).right.right⟩
  have FIN := Lib.hid fin
  clear fin
  by_cases h0 : 0 ≤ bit
  · have hb : decide (0 ≤ bit) = true := decide_eq_true h0
    rw [hb, Bool.true_and] at hc ⊢
    clear h0
    go_enter Try.func63, Try.ntmps63
    go_wp2_with (go_at_call 35; refine hc.mono ?_; rintro e w2 ⟨rfl, h2⟩; clear hc)
    go_ret
    exact ⟨rfl, FIN.out _ _ h2⟩
  · have hb : decide (0 ≤ bit) = false := decide_eq_false h0
    rw [hb, Bool.false_and] at hc ⊢
    clear h0
    go_enter Try.func63, Try.ntmps63
    go_wp2_with (go_at_call 35; refine hc.mono ?_; rintro e w2 ⟨rfl, h2⟩; clear hc)
    go_ret
    exact ⟨rfl, FIN.out _ _ h2⟩

set_option maxHeartbeats 400000 in
theorem slose_any (p : Nat) (S : ShelfM) (F : HProp) (a : PlaceM) (w : World) (hS : Sat w (shelfAt SH p S * F)) :
    Calls Try.prog 64 #[.pointer (some ⟨p, 0, none⟩), .agg (plA a)] w fun e w' => e = .returned (.int .i64 (S.lose a).2) ∧ Hid (Same w w' ∧ Sat w' (shelfAt SH p (S.lose a).1 * F)) := by
  have hA := hS.alloc (.cells (plA a) TPl)
  have hc := arm_all p S (pts w.heap.size (.cells (plA a) TPl (0, 0)) * F) a true (fun D n => D.lose n) 73 #[] cf_lose (fun D n => DiskM.lose_n _ _)
    (fun D w' q G h => lose1_any q _ D (_ * G) w' h) _ (hA.perm (by ac_rfl))
  have hr : S.lose a = S.arm a true fun D n => D.lose n := rfl
  rw [hr]
  clear hS hA hr
  go_enter Try.func64, Try.ntmps64
  go_wp2_with (go_at_call 35; refine hc.mono ?_; rintro e w2 ⟨rfl, h2⟩; clear hc)
  go_ret
  exact ⟨rfl, ((Same.refl w).alloc _).trans h2.out.1, (h2.out.2.perm (show _ = pts w.heap.size (.cells (plA a) TPl (0, 0)) * (shelfAt SH p _ * F) from by ac_rfl)).right⟩

def misC (x y : Int) : Bool := decide (0 ≤ x) && y == 0
set_option maxHeartbeats 1000000 in
theorem smis_any (p : Nat) (S : ShelfM) (F : HProp) (a b : PlaceM) (w : World) (hS : Sat w (shelfAt SH p S * F)) :
    Calls Try.prog 65 #[.pointer (some ⟨p, 0, none⟩), .agg (plA a), .agg (plA b)] w fun e w' => e = .returned (.int .i64 (S.misdirect a b).2) ∧ Hid (Same w w' ∧ Sat w' (shelfAt SH p (S.misdirect a b).1 * F)) := by
  have hnum := number_any p S F b ((w.alloc (.cells (plA a) TPl)).alloc (.cells (plA b) TPl)) ((hS.allocKeep _).allocKeep _)
  have hr : S.misdirect a b = S.arm a (decide (0 ≤ S.number b) && decide (a.disk = b.disk)) fun D n => D.misdirect n (S.number b) := rfl
  rw [hr]
  obtain ⟨x, hx⟩ : ∃ x, S.number b = x := ⟨_, rfl⟩
  rw [hx] at hnum hr ⊢
  have HS := Lib.hid hS
  obtain ⟨Z, hz⟩ : ∃ Z, (S.arm a (decide (0 ≤ x) && decide (a.disk = b.disk)) fun D n => D.misdirect n x) = Z := ⟨_, rfl⟩
  rw [hz]
  have HZ := Lib.hid hz
  clear hS hr hx hz
  go_enter Try.func65, Try.ntmps65
  go_upto_region 2 with (go_at_call 50; refine hnum.mono ?_; rintro e w1 ⟨rfl, hb1⟩)
  have hA := ((((HS.out.alloc (.cells (plA a) TPl)).alloc (.cells (plA b) TPl)).below hb1.out).alloc (.cells #[.int .i64 x] TInt))
  have hSm := ((((Same.refl w).alloc (.cells (plA a) TPl)).alloc (.cells (plA b) TPl)).below hb1.out).alloc (.cells #[.int .i64 x] TInt)
  rw [World.size_alloc] at hA
  clear hb1 hnum
  generalize w1.alloc (.cells #[.int .i64 x] TInt) = W at hA hSm ⊢
  generalize w1.heap.size = B2 at hA ⊢
  generalize w.heap.size + 1 = B1 at hA ⊢
  generalize w.heap.size = B0 at hA ⊢
  have q2 : W.cell? ⟨B2, 0, none⟩ = some (.int .i64 x) := cells_at hA.block 0
  have q1 : W.cell? ⟨B1, 0, none⟩ = some (.int .i64 b.disk) := cells_at hA.right.block 0
  have q0 : W.cell? ⟨B0, 0, none⟩ = some (.int .i64 a.disk) := cells_at hA.right.right.block 0
  have q01 : W.cell? ⟨B0, 1, none⟩ = some (.int .i64 a.area) := cells_at hA.right.right.block 1
  have q02 : W.cell? ⟨B0, 2, none⟩ = some (.int .i64 a.index) := cells_at hA.right.right.block 2
  have hc := fun valid => arm_all p S (pts B2 (.cells #[.int .i64 x] TInt (0, 0)) * (pts B1 (.cells (plA b) TPl (0, 0)) * (pts B0 (.cells (plA a) TPl (0, 0)) * F))) a valid (fun D n => D.misdirect n x) 75 #[ptrV B2] cf_mis (fun D n => DiskM.misdirect_n _ _ _)
    (fun D w' q G h => mis1_any q _ _ x D _ G w' h) W (hA.perm (by ac_rfl))
  unfold ptrV at hc
  have HA := Lib.hid hSm
  have fin : ∀ (w2 : World) (S' : ShelfM), Hid (Same W w2 ∧ Sat w2 (shelfAt SH p S' * (pts B2 (.cells #[.int .i64 x] TInt (0, 0)) * (pts B1 (.cells (plA b) TPl (0, 0)) * (pts B0 (.cells (plA a) TPl (0, 0)) * F))))) → Hid (Same w w2 ∧ Sat w2 (shelfAt SH p S' * F)) :=
    fun w2 S' h => ⟨HA.out.trans h.out.1, (h.out.2.perm (show _ = pts B2 (.cells #[.int .i64 x] TInt (0, 0)) * (pts B1 (.cells (plA b) TPl (0, 0)) * (pts B0 (.cells (plA a) TPl (0, 0)) * (shelfAt SH p S' * F))) from by ac_rfl)).right.right.right⟩
  have FIN := Lib.hid fin
  clear fin hA hSm
  by_cases h0 : 0 ≤ x
  · have hb : decide (0 ≤ x) = true := decide_eq_true h0
    by_cases h1 : a.disk = b.disk
    · have he : (a.disk == b.disk) = true := by simp [h1]
      have hz := HZ.out
      rw [hb, decide_eq_true h1] at hz
      replace hc := hc true
      rw [show (S.arm a true fun D n => D.misdirect n x) = Z from hz] at hc
      clear h0 h1 hz
      go_wp2_with (go_at_call 35; refine hc.mono ?_; rintro e w2 ⟨rfl, h2⟩; clear hc)
      go_ret
      exact ⟨rfl, FIN.out _ _ h2⟩
    · have he : (a.disk == b.disk) = false := by simp [h1]
      have hz := HZ.out
      rw [hb, decide_eq_false h1] at hz
      replace hc := hc false
      rw [show (S.arm a false fun D n => D.misdirect n x) = Z from hz] at hc
      clear h0 h1 hz
      go_wp2_with (go_at_call 35; refine hc.mono ?_; rintro e w2 ⟨rfl, h2⟩; clear hc)
      go_ret
      exact ⟨rfl, FIN.out _ _ h2⟩
  · have hb : decide (0 ≤ x) = false := decide_eq_false h0
    have hz := HZ.out
    rw [hb, Bool.false_and] at hz
    replace hc := hc false
    rw [show (S.arm a false fun D n => D.misdirect n x) = Z from hz] at hc
    clear h0 hz
    go_wp2_with (go_at_call 35; refine hc.mono ?_; rintro e w2 ⟨rfl, h2⟩; clear hc)
    go_ret
    exact ⟨rfl, FIN.out _ _ h2⟩

set_option maxHeartbeats 400000 in
theorem peek1_any (q tB : Nat) (n : Int) (s : ByteArray) (D : DiskM) (F G : HProp) (w : World) (hS : Sat w (diskAt TD TS q D * ((pts tB (.cells #[.string s] TString (0, 0)) * F) * G))) :
    Calls Try.prog 36 (#[.agg #[ptrV q, .int .i64 1], .int .i64 n] ++ #[ptrV tB]) w fun e w' => e = .returned (.int .i64 (D.read n).2) ∧ Hid (Same w w' ∧ Sat w' (diskAt TD TS q D * ((pts tB (.cells #[.string (strB (D.read n).1)] TString (0, 0)) * F) * G))) := by
  have HS := Lib.hid hS
  have hp := hS.perm (show _ = pts tB (.cells #[.string s] TString (0, 0)) * (diskAt TD TS q D * (F * G)) from by ac_rfl)
  have c0 : w.cell? ⟨tB, 0, none⟩ = some (.string s) := cells_at hp.block 0
  have f0 : w.frozen? ⟨tB, 0, none⟩ = false := thawed_at hp.block 0
  have l0 := hp.lt
  have hrd := read_any q D ((pts tB (.cells #[.string s] TString (0, 0)) * F) * G) n (w.alloc (.cells #[ptrV q, .int .i64 1] TBay)) (hS.allocKeep _)
  obtain ⟨⟨t, k⟩, hr⟩ : ∃ r, D.read n = r := ⟨_, rfl⟩
  rw [hr] at hrd ⊢
  simp only at hrd ⊢
  clear hS hp hr
  show Calls Try.prog 36 #[.agg #[ptrV q, .int .i64 1], .int .i64 n, ptrV tB] w _
  unfold ptrV at hrd ⊢
  go_enter Try.func36, Try.ntmps36
  go_upto_region 3 with (go_at_call 37; refine hrd.mono ?_; rintro e w1 ⟨rfl, hb⟩; have c1 : w1.cell? ⟨tB, 0, none⟩ = some (.string s) := (hb.cell (p := ⟨tB, 0, none⟩) (by simp; omega)).trans ((World.cell?_alloc_lt _ _ _ l0).trans c0); have f1 : w1.frozen? ⟨tB, 0, none⟩ = false := thawed_at ((HS.out.allocKeep _).below hb |>.perm (show _ = pts tB (.cells #[.string s] TString (0, 0)) * (diskAt TD TS q D * (F * G)) from by ac_rfl)).block 0; have HB := Lib.hid hb; clear hb c0 f0)
  go_wp2
  go_ret
  refine ⟨rfl, (((Same.refl w).alloc _).below HB.out).setCell _ _, ?_⟩
  exact ((((HS.out.allocKeep _).below HB.out).perm (show _ = pts tB (.cells #[.string s] TString (0, 0)) * (diskAt TD TS q D * (F * G)) from by ac_rfl)).setCell (i := 0) _).perm (by show pts tB (.cells #[.string (strB t)] TString (0, 0)) * _ = _; ac_rfl)

def PeekOut (p : Nat) (S : ShelfM) (F : HProp) (r : List UInt8 × Bool) (w : World) (e : Ending) (w' : World) : Prop := e = .returned (.tuple #[.string (strB r.1), .bool r.2]) ∧ Same w w' ∧ Sat w' (shelfAt SH p S * F)
theorem ptrV_eq (p : Nat) : ptrV p = .pointer (some ⟨p, 0, none⟩) := rfl
theorem zeroStr (w : World) : (zeroValue TString).run Try.prog w = .ok (.string ⟨#[]⟩) w := by kernel_rfl

set_option maxHeartbeats 1000000 in
theorem peek_any (p : Nat) (S : ShelfM) (F : HProp) (a : PlaceM) (w : World) (hS : Sat w (shelfAt SH p S * F)) :
    Calls Try.prog 12 #[.pointer (some ⟨p, 0, none⟩), .agg (plA a)] w (PeekOut p S F (S.peek a) w) := by
  have hwf := shelfAt_wf hS
  have hA := ((hS.alloc (.cells (plA a) TPl)).alloc (.cells #[.string ⟨#[]⟩] TString))
  rw [World.size_alloc] at hA
  have hpk : S.peek a = if S.number a < 0 then ([], false) else if S.state a.disk = 1 then (((S.disk a.disk).read (S.number a)).1, decide (((S.disk a.disk).read (S.number a)).2 = 0)) else ([], false) := rfl
  by_cases h0 : S.number a < 0
  · rw [if_pos h0] at hpk
    rw [hpk]
    have hc := arm_bad p S (pts (w.heap.size + 1) (.cells #[.string ⟨#[]⟩] TString (0, 0)) * (pts w.heap.size (.cells (plA a) TPl (0, 0)) * F)) a true 36 #[ptrV (w.heap.size + 1)] _ (hA.perm (by ac_rfl)) (.inl h0)
    unfold ptrV at hc
    clear hpk h0 hA hS hwf
    go_enter Try.func12, Try.ntmps12
    go_upto_region 3 with (go_at_call 35; refine hc.mono ?_; rintro e w2 ⟨rfl, h2⟩; clear hc)
    have hs2 := h2.out.2.perm (show _ = pts (w.heap.size + 1) (.cells #[.string ⟨#[]⟩] TString (0, 0)) * (pts w.heap.size (.cells (plA a) TPl (0, 0)) * (shelfAt SH p S * F)) from by ac_rfl)
    have c0 : w2.cell? ⟨w.heap.size + 1, 0, none⟩ = some (.string ⟨#[]⟩) := cells_at hs2.block 0
    have HF := Lib.hid hs2.right.right
    clear hs2
    go_wp2
    go_ret2
    exact ⟨rfl, (((Same.refl w).alloc _).alloc _).trans h2.out.1, HF.out⟩
  · rw [if_neg h0] at hpk
    have hn0 : 0 ≤ S.number a := by omega
    have hin := ShelfM.state_in hwf (ShelfM.number_lt hwf hn0).1
    have hc := arm_do p S (pts (w.heap.size + 1) (.cells #[.string ⟨#[]⟩] TString (0, 0)) * (pts w.heap.size (.cells (plA a) TPl (0, 0)) * F)) (pts (w.heap.size + 1) (.cells #[.string (strB ((S.disk a.disk).read (S.number a)).1)] TString (0, 0)) * (pts w.heap.size (.cells (plA a) TPl (0, 0)) * F)) a 36 #[ptrV (w.heap.size + 1)] (S.disk a.disk) ((S.disk a.disk).read (S.number a)).2 cf_peek hn0 (fun _ => rfl)
      (fun _ w' q G h => peek1_any q _ _ _ _ _ G w' h) _ (hA.perm (by ac_rfl))
    unfold ptrV armR ArmOut at hc
    rw [ShelfM.setDisk_self hin.1 hin.2] at hc
    by_cases h1 : S.state a.disk = 1
    · rw [if_pos h1] at hpk
      rw [hpk]
      simp only [if_pos h1] at hc
      obtain ⟨⟨t, k⟩, hr⟩ : ∃ r, (S.disk a.disk).read (S.number a) = r := ⟨_, rfl⟩
      rw [hr] at hc ⊢
      simp only at hc ⊢
      clear hpk h0 hA hS hwf h1 hr hn0 hin
      by_cases hk : k = 0
      · rw [decide_eq_true hk]
        have hkb : (k == 0) = true := by simp [hk]
        clear hk
        go_enter Try.func12, Try.ntmps12
        go_upto_region 3 with (go_at_call 35; refine hc.mono ?_; rintro e w2 ⟨rfl, h2⟩; clear hc)
        have hs2 := h2.out.2.perm (show _ = pts (w.heap.size + 1) (.cells #[.string (strB t)] TString (0, 0)) * (pts w.heap.size (.cells (plA a) TPl (0, 0)) * (shelfAt SH p S * F)) from by ac_rfl)
        have c0 : w2.cell? ⟨w.heap.size + 1, 0, none⟩ = some (.string (strB t)) := cells_at hs2.block 0
        have HF := Lib.hid hs2.right.right
        clear hs2
        go_wp2
        go_ret2
        exact ⟨rfl, (((Same.refl w).alloc _).alloc _).trans h2.out.1, HF.out⟩
      · rw [decide_eq_false hk]
        have hkb : (k == 0) = false := by simp [hk]
        clear hk
        go_enter Try.func12, Try.ntmps12
        go_upto_region 3 with (go_at_call 35; refine hc.mono ?_; rintro e w2 ⟨rfl, h2⟩; clear hc)
        have hs2 := h2.out.2.perm (show _ = pts (w.heap.size + 1) (.cells #[.string (strB t)] TString (0, 0)) * (pts w.heap.size (.cells (plA a) TPl (0, 0)) * (shelfAt SH p S * F)) from by ac_rfl)
        have c0 : w2.cell? ⟨w.heap.size + 1, 0, none⟩ = some (.string (strB t)) := cells_at hs2.block 0
        have HF := Lib.hid hs2.right.right
        clear hs2
        go_wp2
        go_ret2
        exact ⟨rfl, (((Same.refl w).alloc _).alloc _).trans h2.out.1, HF.out⟩
    · rw [if_neg h1] at hpk
      rw [hpk]
      simp only [if_neg h1] at hc
      clear hpk h0 hA hS hwf h1 hn0 hin
      go_enter Try.func12, Try.ntmps12
      go_upto_region 3 with (go_at_call 35; refine hc.mono ?_; rintro e w2 ⟨rfl, h2⟩; clear hc)
      have hs2 := h2.out.2.perm (show _ = pts (w.heap.size + 1) (.cells #[.string ⟨#[]⟩] TString (0, 0)) * (pts w.heap.size (.cells (plA a) TPl (0, 0)) * (shelfAt SH p S * F)) from by ac_rfl)
      have c0 : w2.cell? ⟨w.heap.size + 1, 0, none⟩ = some (.string ⟨#[]⟩) := cells_at hs2.block 0
      have HF := Lib.hid hs2.right.right
      clear hs2
      go_wp2
      go_ret2
      exact ⟨rfl, (((Same.refl w).alloc _).alloc _).trans h2.out.1, HF.out⟩

def ReadOut (p : Nat) (S : ShelfM) (F : HProp) (r : List UInt8 × Int) (w : World) (e : Ending) (w' : World) : Prop := e = .returned (.tuple #[.string (strB r.1), .int .i64 r.2]) ∧ Same w w' ∧ Sat w' (shelfAt SH p S * F)
set_option maxRecDepth 100000 in
set_option maxHeartbeats 1000000 in
theorem sread_any (p : Nat) (S : ShelfM) (F : HProp) (a : PlaceM) (w : World) (hS : Sat w (shelfAt SH p S * F)) :
    Calls Try.prog 22 #[.pointer (some ⟨p, 0, none⟩), .agg (plA a)] w (ReadOut p S F (S.read a) w) := by
  have hwf := shelfAt_wf hS
  have hnum := number_any p S F a (w.alloc (.cells (plA a) TPl)) (hS.allocKeep _)
  have hA := (hS.alloc (.cells (plA a) TPl)).perm (show _ = shelfAt SH p S * (pts w.heap.size (.cells (plA a) TPl (0, 0)) * F) from by ac_rfl)
  have hrd : S.read a = if S.number a < 0 then ([], 1) else if S.access a.disk ≠ 0 then ([], S.access a.disk) else (S.disk a.disk).read (S.number a) := rfl
  obtain ⟨x, hx⟩ : ∃ x, S.number a = x := ⟨_, rfl⟩
  rw [hx] at hnum hrd
  have HX := Lib.hid hx
  have H1 := Lib.hid (And.intro ((Same.refl w).alloc (.cells (plA a) TPl)) hA)
  clear hA hS
  by_cases h0 : x < 0
  · rw [if_pos h0] at hrd
    rw [hrd]
    have hb : decide (x < 0) = true := decide_eq_true h0
    clear hrd h0 hwf hx
    go_enter Try.func22, Try.ntmps22
    go_wp2_with (go_at_call 50; refine hnum.mono ?_; rintro e w1 ⟨rfl, hb1⟩; replace H1 := Lib.hid (And.intro (H1.out.1.below hb1.out) (H1.out.2.below hb1.out)); clear hb1)
    go_ret2
    exact ⟨rfl, H1.out.1, (H1.out.2.perm (show _ = pts w.heap.size (.cells (plA a) TPl (0, 0)) * (shelfAt SH p S * F) from by ac_rfl)).right⟩
  rw [if_neg h0] at hrd
  have hb : decide (x < 0) = false := decide_eq_false h0
  have hn0 : 0 ≤ S.number a := by omega
  have hst := (ShelfM.number_lt hwf hn0).1
  have hin := ShelfM.state_in hwf hst
  have HST := Lib.hid hst
  obtain ⟨⟨d, ar, ix⟩, ha⟩ : ∃ b : PlaceM, a = b := ⟨_, rfl⟩
  subst ha
  simp only at *
  obtain ⟨k, rfl⟩ := Int.eq_ofNat_of_zero_le hin.1
  have hk := hin.2
  clear hn0 hin hwf hx h0 hst
  go_enter Try.func22, Try.ntmps22
  go_upto_region 4 with (go_at_call 50; refine hnum.mono ?_; rintro e w1 ⟨rfl, hb1⟩; replace H1 := Lib.hid (And.intro (H1.out.1.below hb1.out) (H1.out.2.below hb1.out)); clear hb1)
  generalize w.heap.size = B at H1 ⊢
  have c0 : w1.cell? ⟨B, 0, none⟩ = some (.int .i64 (k : Int)) := cells_at (H1.out.2.perm (show _ = pts B (.cells (plA ⟨(k : Int), ar, ix⟩) TPl (0, 0)) * (shelfAt SH p S * F) from by ac_rfl)).block 0
  have hacc := access_any p S _ k w1 H1.out.2 HST.out
  obtain ⟨ac, hac⟩ : ∃ ac, S.access (k : Int) = ac := ⟨_, rfl⟩
  rw [hac] at hacc hrd
  by_cases ha : ac = 0
  case neg =>
    rw [if_pos ha] at hrd
    have HRD := Lib.hid hrd
    have hab : (ac != 0) = true := by simp [ha]
    clear hrd ha hac
    go_wp2_with (go_at_call 51; refine hacc.mono ?_; rintro e w' ⟨rfl, rfl⟩; clear hacc)
    go_ret2
    rw [HRD.out]
    exact ⟨rfl, H1.out.1, (H1.out.2.perm (show _ = pts B (.cells (plA ⟨(k : Int), ar, ix⟩) TPl (0, 0)) * (shelfAt SH p S * F) from by ac_rfl)).right⟩
  rw [if_neg (by simp [ha])] at hrd
  subst ha
  have HRD := Lib.hid hrd
  clear hrd hac
  go_upto_region 7 with (go_at_call 51; refine hacc.mono ?_; rintro e w' ⟨rfl, rfl⟩; clear hacc)
  obtain ⟨g, cap', q, vi, G, hs, ⟨hpg, hg⟩, b0, b1, hf, hcl, hbc⟩ := shelf_bay H1.out.2 (d := k) (by omega)
  obtain ⟨⟨q6, q7, q8, q9, q10⟩, hp, hfp, hra⟩ := shelf_cells hs
  obtain ⟨n, hnn⟩ : ∃ n, S.bays.length = n := ⟨_, rfl⟩
  rw [hnn] at q6 hk
  have hrdd := read_any q (S.disk k) (pts p (.cells (shelfC S.cfg (.slice (some ⟨g, 0, none⟩) S.bays.length cap') vi S.off S.fused S.left) TSh (0, 0)) * ((pts B (.cells (plA ⟨(k : Int), ar, ix⟩) TPl (0, 0)) * F) * G)) x w1.drew (hs.drew.perm (by ac_rfl))
  obtain ⟨⟨t, ek⟩, hr⟩ : ∃ r, (S.disk k).read x = r := ⟨_, rfl⟩
  rw [hr] at hrdd
  have hrd2 : S.read ⟨(k : Int), ar, ix⟩ = (t, ek) := by rw [HRD.out]; exact hr
  have HRD2 := Lib.hid hrd2
  simp only at hrdd
  obtain ⟨tib, htib⟩ : ∃ ti, Try.prog.info? TBay = some ti ∧ ti.size = 2 := by have := infoBay (ptrV 0) (ptrV 0); obtain ⟨ti, h1, h2⟩ := Option.map_eq_some_iff.1 this; exact ⟨ti, h1, h2⟩
  have htb := htib.1
  have htb2 := htib.2
  unfold ptrV at b0
  clear hs hf hcl hbc hfp hra hnn htib hr hrd2
  have hS0 : w1.drew.cell? ⟨p, 6, none⟩ = some (.slice (some ⟨g, 0, none⟩) n cap') ∧ w1.drew.cell? ⟨B, 0, none⟩ = some (.int .i64 (k : Int)) ∧ w1.drew.cell? ⟨g, 0 + k * 2, none⟩ = some (.pointer (some ⟨q, 0, none⟩)) := ⟨q6, c0, by rw [Nat.zero_add]; exact b0⟩
  refine reg_begin (fun w' => w'.cell? ⟨p, 6, none⟩ = some (.slice (some ⟨g, 0, none⟩) n cap') ∧ w'.cell? ⟨B, 0, none⟩ = some (.int .i64 (k : Int)) ∧ w'.cell? ⟨g, 0 + k * 2, none⟩ = some (.pointer (some ⟨q, 0, none⟩))) (by kernel_rfl) ?_
  (apply reg_take 0 rfl rfl (by decide +kernel) rfl); (rintro w' ⟨h1, h2, h3⟩; go_simp; rfl); exact hS0; simp only [List.setIfInBounds_toArray, List.set_cons_succ, List.set_cons_zero]
  (apply reg_take 1 rfl rfl (by decide +kernel) rfl); (rintro w' ⟨h1, h2, h3⟩; go_simp; rfl); exact hS0; simp only [List.setIfInBounds_toArray, List.set_cons_succ, List.set_cons_zero]
  (apply reg_take 2 rfl rfl (by decide +kernel) rfl); (rintro w' ⟨h1, h2, h3⟩; go_simp; rfl); exact hS0; simp only [List.setIfInBounds_toArray, List.set_cons_succ, List.set_cons_zero]
  (apply reg_take 3 rfl rfl (by decide +kernel) rfl); (rintro w' ⟨h1, h2, h3⟩; go_simp; rfl); exact hS0; simp only [List.setIfInBounds_toArray, List.set_cons_succ, List.set_cons_zero]
  (apply reg_take 4 rfl rfl (by decide +kernel) rfl); (rintro w' ⟨h1, h2, h3⟩; go_simp; rfl); exact hS0; simp only [List.setIfInBounds_toArray, List.set_cons_succ, List.set_cons_zero]
  (apply reg_take 5 rfl rfl (by decide +kernel) rfl); (rintro w' ⟨h1, h2, h3⟩; go_simp; rfl); exact hS0; simp only [List.setIfInBounds_toArray, List.set_cons_succ, List.set_cons_zero]
  refine reg_take 6 (v := .pointer (some ⟨g, 0 + k * 2, none⟩)) rfl rfl (by decide +kernel) rfl (fun _ _ => exec_index_slice rfl rfl rfl Try.underlying72 htb htb2 (by omega)) hS0 ?_; simp only [List.setIfInBounds_toArray, List.set_cons_succ, List.set_cons_zero]
  (apply reg_take 7 rfl rfl (by decide +kernel) rfl); (rintro w' ⟨h1, h2, h3⟩; rw [Nat.zero_add] at h3; go_simp; rfl); exact hS0; simp only [List.setIfInBounds_toArray, List.set_cons_succ, List.set_cons_zero]
  (apply reg_take 8 rfl rfl (by decide +kernel) rfl); (rintro w' ⟨h1, h2, h3⟩; rw [Nat.zero_add] at h3; go_simp; rfl); exact hS0; simp only [List.setIfInBounds_toArray, List.set_cons_succ, List.set_cons_zero]
  (apply reg_take 9 rfl rfl (by decide +kernel) rfl); (rintro w' ⟨h1, h2, h3⟩; rw [Nat.zero_add] at h3; go_simp; rfl); exact hS0; simp only [List.setIfInBounds_toArray, List.set_cons_succ, List.set_cons_zero]
  refine reg_call 10 rfl rfl (by decide +kernel) rfl (f := 37) (args := #[.pointer (some ⟨q, 0, none⟩), .int .i64 x]) (R := fun v w' => v = .tuple #[.string (strB t), .int .i64 ek] ∧ Hid (Below w1.heap.size w1 w')) (by kernel_rfl) (hrdd.mono fun e w' h => ⟨_, h.1, rfl, ⟨h.2.os, h.2.tape, h.2.output, h.2.size, h.2.block⟩⟩) ?_
  rintro _ w2 ⟨rfl, hb2⟩
  have hBlt : B < w1.heap.size := World.block_lt_of_cell? _ _ c0
  have hS1 : w2.cell? ⟨p, 6, none⟩ = some (.slice (some ⟨g, 0, none⟩) n cap') ∧ w2.cell? ⟨B, 0, none⟩ = some (.int .i64 (k : Int)) ∧ w2.cell? ⟨g, 0 + k * 2, none⟩ = some (.pointer (some ⟨q, 0, none⟩)) := ⟨(hb2.out.cell (p := ⟨p, 6, none⟩) hp).trans q6, (hb2.out.cell (p := ⟨B, 0, none⟩) hBlt).trans c0, (hb2.out.cell (p := ⟨g, 0 + k * 2, none⟩) hg).trans (by rw [Nat.zero_add]; exact b0)⟩
  refine ⟨hS1, ?_⟩
  simp only [List.setIfInBounds_toArray, List.set_cons_succ, List.set_cons_zero]
  (apply reg_take 11 rfl rfl (by decide +kernel) rfl); (rintro w' ⟨h1, h2, h3⟩; go_simp; rfl); exact hS1; simp only [List.setIfInBounds_toArray, List.set_cons_succ, List.set_cons_zero]
  (apply reg_take 12 rfl rfl (by decide +kernel) rfl); (rintro w' ⟨h1, h2, h3⟩; go_simp; rfl); exact hS1; simp only [List.setIfInBounds_toArray, List.set_cons_succ, List.set_cons_zero]
  (apply reg_take 13 rfl rfl (by decide +kernel) rfl); (rintro w' ⟨h1, h2, h3⟩; go_simp; rfl); exact hS1; simp only [List.setIfInBounds_toArray, List.set_cons_succ, List.set_cons_zero]
  (apply reg_take 14 rfl rfl (by decide +kernel) rfl); (rintro w' ⟨h1, h2, h3⟩; go_simp; rfl); exact hS1; simp only [List.setIfInBounds_toArray, List.set_cons_succ, List.set_cons_zero]
  refine reg_done (by decide +kernel) ?_
  go_wp2
  go_ret2
  rw [HRD2.out]
  exact ⟨rfl, H1.out.1.below hb2.out, ((H1.out.2.below hb2.out).perm (show _ = pts B (.cells (plA ⟨(k : Int), ar, ix⟩) TPl (0, 0)) * (shelfAt SH p S * F) from by ac_rfl)).right⟩

end Go.Proofs.Ytogmkbhbmmgidaa
