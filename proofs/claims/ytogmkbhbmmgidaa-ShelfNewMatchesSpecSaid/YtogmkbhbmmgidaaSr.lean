/- shelf.Rot. -/
import Derived.Test.YtogmkbhbmmgidaaSw
import Derived.Test.YtogmkbhbmmgidaaDr
import Derived.Test.YtogmkbhbmmgidaaDz
namespace Go.Proofs.Ytogmkbhbmmgidaa
open Go.RowKit Go.Sl Go.ChangeMaps

theorem cf_rot (args : Array Value) (w : World) : (callFunc 71 args).run Try.prog w = .ok (.enter 71 args) w := by kernel_rfl

theorem arm_all (p : Nat) (S : ShelfM) (F : HProp) (a : PlaceM) (valid : Bool) (f : DiskM → Int → DiskM × Int) (fid : FuncId) (cap : Array Value) (hcf : ∀ args w, (callFunc fid args).run Try.prog w = .ok (.enter fid args) w) (hn : ∀ D n, (f D n).1.n = D.n)
    (hex : ∀ D w' q G, Sat w' (diskAt TD TS q D * (F * G)) → Calls Try.prog fid (#[.agg #[ptrV q, .int .i64 1], .int .i64 (S.number a)] ++ cap) w' fun e w'' => e = .returned (.int .i64 (f D (S.number a)).2) ∧ Hid (Same w' w'' ∧ Sat w'' (diskAt TD TS q (f D (S.number a)).1 * (F * G))))
    (w : World) (hS : Sat w (shelfAt SH p S * F)) :
    Calls Try.prog 35 #[.pointer (some ⟨p, 0, none⟩), .agg (plA a), .bool valid, .func (.func fid) #[] cap] w fun e w' => e = .returned (.int .i64 (S.arm a valid f).2) ∧ Hid (Same w w' ∧ Sat w' (shelfAt SH p (S.arm a valid f).1 * F)) := by
  by_cases h : S.number a < 0 ∨ valid = false
  · rw [ShelfM.arm_eq_bad S a f valid h]; exact arm_bad p S F a valid fid cap w hS h
  · have hv : valid = true := by cases valid; exact absurd (.inr rfl) h; rfl
    subst hv
    have h0 : 0 ≤ S.number a := by omega
    rw [ShelfM.arm_eq S a f h0 true rfl]
    refine (arm_do p S F F a fid cap (f (S.disk a.disk) (S.number a)).1 (f (S.disk a.disk) (S.number a)).2 hcf h0 (fun _ => hn _ _) (fun _ w' q G h => hex _ w' q G h) w hS).mono ?_
    rintro e w' ⟨rfl, h2⟩
    unfold armR
    have h3 := h2.out.2
    unfold ArmOut at h3
    by_cases h1 : S.state a.disk = 1
    · rw [if_pos h1] at h3 ⊢; rw [if_pos h1]; exact ⟨rfl, h2.out.1, h3⟩
    · rw [if_neg h1] at h3 ⊢; rw [if_neg h1]; exact ⟨rfl, h2.out.1, h3⟩

set_option maxHeartbeats 400000 in
theorem rot1_any (q bB : Nat) (n bit : Int) (D : DiskM) (F G : HProp) (w : World) (hS : Sat w (diskAt TD TS q D * ((pts bB (.cells #[.int .i64 bit] TInt (0, 0)) * F) * G))) :
    Calls Try.prog 71 (#[.agg #[ptrV q, .int .i64 1], .int .i64 n] ++ #[ptrV bB]) w fun e w' => e = .returned (.int .i64 (D.rot n bit).2) ∧ Hid (Same w w' ∧ Sat w' (diskAt TD TS q (D.rot n bit).1 * ((pts bB (.cells #[.int .i64 bit] TInt (0, 0)) * F) * G))) := by
  have HS := Lib.hid hS
  have c0 : w.cell? ⟨bB, 0, none⟩ = some (.int .i64 bit) := cells_at (hS.perm (show _ = pts bB (.cells #[.int .i64 bit] TInt (0, 0)) * (diskAt TD TS q D * (F * G)) from by ac_rfl)).block 0
  have l0 := World.block_lt_of_cell? _ _ c0
  simp only at l0
  clear hS
  show Calls Try.prog 71 #[.agg #[ptrV q, .int .i64 1], .int .i64 n, ptrV bB] w _
  unfold ptrV
  go_enter Try.func71, Try.ntmps71
  go_wp2_with (go_at_call 72; refine (rot_all q D _ n bit _ (HS.out.allocKeep _)).mono ?_; rintro e w' ⟨rfl, h1, h2⟩; have H := Lib.hid (And.intro h1 h2); clear h1 h2)
  go_ret
  exact ⟨rfl, ((Same.refl w).alloc _).trans H.out.1, H.out.2⟩

set_option maxHeartbeats 400000 in
theorem srot_any (p : Nat) (S : ShelfM) (F : HProp) (a : PlaceM) (bit : Int) (w : World) (hS : Sat w (shelfAt SH p S * F)) :
    Calls Try.prog 63 #[.pointer (some ⟨p, 0, none⟩), .agg (plA a), .int .i64 bit] w fun e w' => e = .returned (.int .i64 (S.rot a bit).2) ∧ Hid (Same w w' ∧ Sat w' (shelfAt SH p (S.rot a bit).1 * F)) := by
  have hA := ((hS.alloc (.cells (plA a) TPl)).alloc (.cells #[.int .i64 bit] TInt))
  rw [World.size_alloc] at hA
  have HA := Lib.hid hA
  have hc := fun valid => arm_all p S (pts (w.heap.size + 1) (.cells #[.int .i64 bit] TInt (0, 0)) * (pts w.heap.size (.cells (plA a) TPl (0, 0)) * F)) a valid (fun D n => D.rot n bit) 71 #[ptrV (w.heap.size + 1)] cf_rot (fun D n => DiskM.rot_n _ _ _)
    (fun D w' q G h => rot1_any q _ _ bit D _ G w' h) _ (hA.perm (by ac_rfl))
  have hr : S.rot a bit = S.arm a (decide (0 ≤ bit) && decide (bit < 512)) fun D n => D.rot n bit := rfl
  rw [hr]
  replace hc := hc (decide (0 ≤ bit) && decide (bit < 512))
  unfold ptrV at hc
  clear hS hA hr
  have fin : ∀ (w2 : World) (S' : ShelfM), Hid (Same ((w.alloc (.cells (plA a) TPl)).alloc (.cells #[.int .i64 bit] TInt)) w2 ∧ Sat w2 (shelfAt SH p S' * (pts (w.heap.size + 1) (.cells #[.int .i64 bit] TInt (0, 0)) * (pts w.heap.size (.cells (plA a) TPl (0, 0)) * F)))) → Hid (Same w w2 ∧ Sat w2 (shelfAt SH p S' * F)) :=
    fun w2 S' h => ⟨(((Same.refl w).alloc _).alloc _).trans h.out.1, (h.out.2.perm (show _ = pts (w.heap.size + 1) (.cells #[.int .i64 bit] TInt (0, 0)) * (pts w.heap.size (.cells (plA a) TPl (0, 0)) * (shelfAt SH p S' * F)) from by ac_rfl)).right.right⟩
  have FIN := Lib.hid fin
  clear fin
  by_cases h0 : 0 ≤ bit
  · have hb : decide (0 ≤ bit) = true := decide_eq_true h0
    rw [hb, Bool.true_and] at hc ⊢
    clear h0
    go_enter Try.func63, Try.ntmps63
    go_wp2_with (go_at_call 35; refine hc.mono ?_; rintro e w2 ⟨rfl, h2⟩; clear hc)
    go_ret
    exact ⟨rfl, FIN.out _ _ h2⟩
  · have hb : decide (0 ≤ bit) = false := decide_eq_false h0
    rw [hb, Bool.false_and] at hc ⊢
    clear h0
    go_enter Try.func63, Try.ntmps63
    go_wp2_with (go_at_call 35; refine hc.mono ?_; rintro e w2 ⟨rfl, h2⟩; clear hc)
    go_ret
    exact ⟨rfl, FIN.out _ _ h2⟩

end Go.Proofs.Ytogmkbhbmmgidaa
