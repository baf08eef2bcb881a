/- shelf.Lose, Misdirect. -/
import Derived.Test.YtogmkbhbmmgidaaSr
import Derived.Test.YtogmkbhbmmgidaaDo
import Derived.Test.YtogmkbhbmmgidaaDi
namespace Go.Proofs.Ytogmkbhbmmgidaa
open Go.RowKit Go.Sl Go.ChangeMaps

theorem cf_lose (args : Array Value) (w : World) : (callFunc 73 args).run Try.prog w = .ok (.enter 73 args) w := by kernel_rfl

theorem cf_mis (args : Array Value) (w : World) : (callFunc 75 args).run Try.prog w = .ok (.enter 75 args) w := by kernel_rfl

set_option maxHeartbeats 400000 in
theorem lose1_any (q : Nat) (n : Int) (D : DiskM) (G : HProp) (w : World) (hS : Sat w (diskAt TD TS q D * G)) :
    Calls Try.prog 73 (#[.agg #[ptrV q, .int .i64 1], .int .i64 n] ++ #[]) w fun e w' => e = .returned (.int .i64 (D.lose n).2) ∧ Hid (Same w w' ∧ Sat w' (diskAt TD TS q (D.lose n).1 * G)) := by
  have HS := Lib.hid hS
  clear hS
  show Calls Try.prog 73 #[.agg #[ptrV q, .int .i64 1], .int .i64 n] w _
  unfold ptrV
  go_enter Try.func73, Try.ntmps73
  go_wp2_with (go_at_call 74; refine (lose_any q D _ n _ (HS.out.allocKeep _)).mono ?_; rintro e w' ⟨rfl, h1, h2⟩; have H := Lib.hid (And.intro h1 h2); clear h1 h2)
  go_ret
  exact ⟨rfl, ((Same.refl w).alloc _).trans H.out.1, H.out.2⟩

set_option maxHeartbeats 400000 in
theorem mis1_any (q bB : Nat) (n bit : Int) (D : DiskM) (F G : HProp) (w : World) (hS : Sat w (diskAt TD TS q D * ((pts bB (.cells #[.int .i64 bit] TInt (0, 0)) * F) * G))) :
    Calls Try.prog 75 (#[.agg #[ptrV q, .int .i64 1], .int .i64 n] ++ #[ptrV bB]) w fun e w' => e = .returned (.int .i64 (D.misdirect n bit).2) ∧ Hid (Same w w' ∧ Sat w' (diskAt TD TS q (D.misdirect n bit).1 * ((pts bB (.cells #[.int .i64 bit] TInt (0, 0)) * F) * G))) := by
  have HS := Lib.hid hS
  have c0 : w.cell? ⟨bB, 0, none⟩ = some (.int .i64 bit) := cells_at (hS.perm (show _ = pts bB (.cells #[.int .i64 bit] TInt (0, 0)) * (diskAt TD TS q D * (F * G)) from by ac_rfl)).block 0
  have l0 := World.block_lt_of_cell? _ _ c0
  simp only at l0
  clear hS
  show Calls Try.prog 75 #[.agg #[ptrV q, .int .i64 1], .int .i64 n, ptrV bB] w _
  unfold ptrV
  go_enter Try.func75, Try.ntmps75
  go_wp2_with (go_at_call 76; refine (misdirect_any q D _ n bit _ (HS.out.allocKeep _)).mono ?_; rintro e w' ⟨rfl, h1, h2⟩; have H := Lib.hid (And.intro h1 h2); clear h1 h2)
  go_ret
  exact ⟨rfl, ((Same.refl w).alloc _).trans H.out.1, H.out.2⟩

set_option maxHeartbeats 400000 in
theorem slose_any (p : Nat) (S : ShelfM) (F : HProp) (a : PlaceM) (w : World) (hS : Sat w (shelfAt SH p S * F)) :
    Calls Try.prog 64 #[.pointer (some ⟨p, 0, none⟩), .agg (plA a)] w fun e w' => e = .returned (.int .i64 (S.lose a).2) ∧ Hid (Same w w' ∧ Sat w' (shelfAt SH p (S.lose a).1 * F)) := by
  have hA := hS.alloc (.cells (plA a) TPl)
  have hc := arm_all p S (pts w.heap.size (.cells (plA a) TPl (0, 0)) * F) a true (fun D n => D.lose n) 73 #[] cf_lose (fun D n => DiskM.lose_n _ _)
    (fun D w' q G h => lose1_any q _ D (_ * G) w' h) _ (hA.perm (by ac_rfl))
  have hr : S.lose a = S.arm a true fun D n => D.lose n := rfl
  rw [hr]
  clear hS hA hr
  go_enter Try.func64, Try.ntmps64
  go_wp2_with (go_at_call 35; refine hc.mono ?_; rintro e w2 ⟨rfl, h2⟩; clear hc)
  go_ret
  exact ⟨rfl, ((Same.refl w).alloc _).trans h2.out.1, (h2.out.2.perm (show _ = pts w.heap.size (.cells (plA a) TPl (0, 0)) * (shelfAt SH p _ * F) from by ac_rfl)).right⟩

def misC (x y : Int) : Bool := decide (0 ≤ x) && y == 0

set_option maxHeartbeats 1000000 in
theorem smis_any (p : Nat) (S : ShelfM) (F : HProp) (a b : PlaceM) (w : World) (hS : Sat w (shelfAt SH p S * F)) :
    Calls Try.prog 65 #[.pointer (some ⟨p, 0, none⟩), .agg (plA a), .agg (plA b)] w fun e w' => e = .returned (.int .i64 (S.misdirect a b).2) ∧ Hid (Same w w' ∧ Sat w' (shelfAt SH p (S.misdirect a b).1 * F)) := by
  have hnum := number_any p S F b ((w.alloc (.cells (plA a) TPl)).alloc (.cells (plA b) TPl)) ((hS.allocKeep _).allocKeep _)
  have hr : S.misdirect a b = S.arm a (decide (0 ≤ S.number b) && decide (a.disk = b.disk)) fun D n => D.misdirect n (S.number b) := rfl
  rw [hr]
  obtain ⟨x, hx⟩ : ∃ x, S.number b = x := ⟨_, rfl⟩
  rw [hx] at hnum hr ⊢
  have HS := Lib.hid hS
  obtain ⟨Z, hz⟩ : ∃ Z, (S.arm a (decide (0 ≤ x) && decide (a.disk = b.disk)) fun D n => D.misdirect n x) = Z := ⟨_, rfl⟩
  rw [hz]
  have HZ := Lib.hid hz
  clear hS hr hx hz
  go_enter Try.func65, Try.ntmps65
  go_upto_region 2 with (go_at_call 50; refine hnum.mono ?_; rintro e w1 ⟨rfl, hb1⟩)
  have hA := ((((HS.out.alloc (.cells (plA a) TPl)).alloc (.cells (plA b) TPl)).below hb1.out).alloc (.cells #[.int .i64 x] TInt))
  have hSm := ((((Same.refl w).alloc (.cells (plA a) TPl)).alloc (.cells (plA b) TPl)).below hb1.out).alloc (.cells #[.int .i64 x] TInt)
  rw [World.size_alloc] at hA
  clear hb1 hnum
  generalize w1.alloc (.cells #[.int .i64 x] TInt) = W at hA hSm ⊢
  generalize w1.heap.size = B2 at hA ⊢
  generalize w.heap.size + 1 = B1 at hA ⊢
  generalize w.heap.size = B0 at hA ⊢
  have q2 : W.cell? ⟨B2, 0, none⟩ = some (.int .i64 x) := cells_at hA.block 0
  have q1 : W.cell? ⟨B1, 0, none⟩ = some (.int .i64 b.disk) := cells_at hA.right.block 0
  have q0 : W.cell? ⟨B0, 0, none⟩ = some (.int .i64 a.disk) := cells_at hA.right.right.block 0
  have q01 : W.cell? ⟨B0, 1, none⟩ = some (.int .i64 a.area) := cells_at hA.right.right.block 1
  have q02 : W.cell? ⟨B0, 2, none⟩ = some (.int .i64 a.index) := cells_at hA.right.right.block 2
  have hc := fun valid => arm_all p S (pts B2 (.cells #[.int .i64 x] TInt (0, 0)) * (pts B1 (.cells (plA b) TPl (0, 0)) * (pts B0 (.cells (plA a) TPl (0, 0)) * F))) a valid (fun D n => D.misdirect n x) 75 #[ptrV B2] cf_mis (fun D n => DiskM.misdirect_n _ _ _)
    (fun D w' q G h => mis1_any q _ _ x D _ G w' h) W (hA.perm (by ac_rfl))
  unfold ptrV at hc
  have HA := Lib.hid hSm
  have fin : ∀ (w2 : World) (S' : ShelfM), Hid (Same W w2 ∧ Sat w2 (shelfAt SH p S' * (pts B2 (.cells #[.int .i64 x] TInt (0, 0)) * (pts B1 (.cells (plA b) TPl (0, 0)) * (pts B0 (.cells (plA a) TPl (0, 0)) * F))))) → Hid (Same w w2 ∧ Sat w2 (shelfAt SH p S' * F)) :=
    fun w2 S' h => ⟨HA.out.trans h.out.1, (h.out.2.perm (show _ = pts B2 (.cells #[.int .i64 x] TInt (0, 0)) * (pts B1 (.cells (plA b) TPl (0, 0)) * (pts B0 (.cells (plA a) TPl (0, 0)) * (shelfAt SH p S' * F))) from by ac_rfl)).right.right.right⟩
  have FIN := Lib.hid fin
  clear fin hA hSm
  by_cases h0 : 0 ≤ x
  · have hb : decide (0 ≤ x) = true := decide_eq_true h0
    by_cases h1 : a.disk = b.disk
    · have he : (a.disk == b.disk) = true := by simp [h1]
      have hz := HZ.out
      rw [hb, decide_eq_true h1] at hz
      replace hc := hc true
      rw [show (S.arm a true fun D n => D.misdirect n x) = Z from hz] at hc
      clear h0 h1 hz
      go_wp2_with (go_at_call 35; refine hc.mono ?_; rintro e w2 ⟨rfl, h2⟩; clear hc)
      go_ret
      exact ⟨rfl, FIN.out _ _ h2⟩
    · have he : (a.disk == b.disk) = false := by simp [h1]
      have hz := HZ.out
      rw [hb, decide_eq_false h1] at hz
      replace hc := hc false
      rw [show (S.arm a false fun D n => D.misdirect n x) = Z from hz] at hc
      clear h0 h1 hz
      go_wp2_with (go_at_call 35; refine hc.mono ?_; rintro e w2 ⟨rfl, h2⟩; clear hc)
      go_ret
      exact ⟨rfl, FIN.out _ _ h2⟩
  · have hb : decide (0 ≤ x) = false := decide_eq_false h0
    have hz := HZ.out
    rw [hb, Bool.false_and] at hz
    replace hc := hc false
    rw [show (S.arm a false fun D n => D.misdirect n x) = Z from hz] at hc
    clear h0 hz
    go_wp2_with (go_at_call 35; refine hc.mono ?_; rintro e w2 ⟨rfl, h2⟩; clear hc)
    go_ret
    exact ⟨rfl, FIN.out _ _ h2⟩

end Go.Proofs.Ytogmkbhbmmgidaa
