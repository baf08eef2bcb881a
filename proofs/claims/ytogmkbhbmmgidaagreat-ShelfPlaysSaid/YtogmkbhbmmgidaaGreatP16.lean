import Derived.Test.YtogmkbhbmmgidaaGreatP14
import Derived.Test.YtogmkbhbmmgidaaGreatP15
import Derived.Test.YtogmkbhbmmgidaaGreatP13
import Derived.Test.YtogmkbhbmmgidaaGreatP07
import Derived.Test.YtogmkbhbmmgidaaGreatP03
/- Part 16 of a proof; the last part says what is proved. -/
section
namespace Go.Proofs.YtogmkbhbmmgidaaGreat
open Go.RowKit Go.Sl Go.ChangeMaps
def yC : CfgM := ⟨2, 1, 3, 0, 1, 1⟩
def yP : PlaceM := ⟨0, 4, 2⟩
def yQ : PlaceM := ⟨0, 4, 3⟩
def z64 : List UInt8 := List.replicate 64 0
def yS0 : ShelfM := ShelfM.new yC
def yS1 : ShelfM := (yS0.write yP z64).1
def yS2 : ShelfM := yS1.fuse 0
def yS3 : ShelfM := (yS2.flush 0).1
theorem y0 : yC.ok = true := by decide +kernel
theorem y1 : yS0.state 1 = 1 := by decide +kernel
theorem y2 : yS0.state 2 = 0 := by decide +kernel
theorem y3 : (yS0.write yP z64).2 = 0 := by decide +kernel
theorem y4 : yS1.write yQ z64 = (yS1, 1) := by
  have h : yS1.number yQ = -1 := by decide +kernel
  unfold ShelfM.write
  rw [if_pos (by rw [h]; exact .inl (by decide))]
theorem y5 : (yS2.flush 0).2 = 14 := by decide +kernel
theorem y6 : yS3.off = true := by decide +kernel
theorem z64_len : z64.length = 64 := by simp [z64]
theorem made_z64 : madeCells (Value.int .u8 0).cells ((64 : Int).toNat * 1) = secA z64 := by
  show madeCells #[Value.int .u8 0] 64 = secA z64
  unfold madeCells secA secL z64
  apply Array.ext
  · simp
  · intro i h1 h2
    simp [byteV, Nat.mod_one, -List.reduceReplicate]
theorem run_mk64 (w : World) : (Instr.makeSlice 51 (.int .i64 64) (.int .i64 64)).run Tryz.prog w = .ok (.slice (some ⟨w.heap.size, 0, none⟩) 64 64) (w.alloc (.cells (secA z64) 5)) := by
  obtain ⟨i0, hi, hz0, hz1, hz2⟩ := info_parts (show (Tryz.prog.info? 5).map (fun i => (i.zero, i.size, i.bytes)) = some (some (.int .u8 0), 1, 1) from by kernel_rfl)
  have h := run_makeSlice (P := Tryz.prog) (w := w) 51 5 i0 _ Tryz.underlying51 hi hz0 .i64 .i64 64 64 (by omega) (by omega) (by rw [hz1]; decide) (by rw [hz2]; decide) (by omega)
  have e : madeCells (Value.int .u8 0).cells ((64 : Int).toNat * i0.size) = secA z64 := by
    rw [hz1]; exact made_z64
  rw [e] at h
  exact h
theorem run_str64 {s : List UInt8} (hs : s.length = 64) (w : World) (T : TypeId) (c : Nat) : (convert 51 9 (.slice (some ⟨w.heap.size, 0, none⟩) 64 c)).run Tryz.prog (w.alloc (.cells (secA s) T)) = .ok (.string ⟨s.toArray⟩) (w.alloc (.cells (secA s) T)) := by
  have := run_convert_bytes_back (P := Tryz.prog) (w.alloc (.cells (secA s) T)) 51 9 5 ⟨w.heap.size, 0, none⟩ c s Tryz.underlying51 Tryz.underlying5 Tryz.underlying9 (by
    intro j hj
    have hb : (w.alloc (.cells (secA s) T)).heap[w.heap.size]? = some (.cells (secA s) T (0, 0)) := heap_alloc_new w _
    rw [Addr.add_mid, cells_at hb]
    simp [secA, secL, byteV, hj])
  rw [hs] at this
  exact this
theorem exec_make {P : Program} {o : Oper} {a : Act} {w w' : World} {T : TypeId} {x y : Operand} {vx vy v : Value} (ho : o.op = .makeSlice T x y) (hx : a.eval x = vx) (hy : a.eval y = vy) (h : (Instr.makeSlice T vx vy).run P w = .ok v w') : (execOp a.eval o).run P w = .ok (.value v) w' := by
  unfold execOp; simp [ho, hx, hy, h]
section
variable {p : Nat} {S S' : ShelfM} {F : HProp} {w : World} {k : Int}
theorem st_write (a : PlaceM) (s : List UInt8) (hS : Sat w (shelfAt SH p S * F)) (h1 : (S.write a s).1 = S') (h2 : (S.write a s).2 = k) :
    Calls Tryz.prog 15 #[.pointer (some ⟨p, 0, none⟩), .agg (plA a), .string (strB s)] w fun e w' => e = .returned (.int .i64 k) ∧ Hid (Same w w' ∧ Sat w' (shelfAt SH p S' * F)) := by
  subst h1 h2; exact swrite_any p S F a s w hS
theorem st_flush (d : Int) (hS : Sat w (shelfAt SH p S * F)) (h1 : (S.flush d).1 = S') (h2 : (S.flush d).2 = k) :
    Calls Tryz.prog 17 #[.pointer (some ⟨p, 0, none⟩), .int .i64 d] w fun e w' => e = .returned (.int .i64 k) ∧ Hid (Same w w' ∧ Sat w' (shelfAt SH p S' * F)) := by
  subst h1 h2; exact sflush_any p S F d w hS
theorem st_read (a : PlaceM) {s : List UInt8} (hS : Sat w (shelfAt SH p S * F)) (h : S.read a = (s, k)) :
    Calls Tryz.prog 27 #[.pointer (some ⟨p, 0, none⟩), .agg (plA a)] w fun e w' => e = .returned (.tuple #[.string (strB s), .int .i64 k]) ∧ Hid (Same w w' ∧ Sat w' (shelfAt SH p S * F)) := by
  refine (sread_any p S F a w hS).mono fun e w' h' => ?_
  unfold ReadOut at h'
  rw [h] at h'
  exact ⟨h'.1, h'.2⟩
end
set_option maxRecDepth 100000 in
set_option maxHeartbeats 2000000 in
theorem sanity_any (F : HProp) (w : World) (hF : Sat w F) : Calls Tryz.prog 4 #[] w fun e w' => e = .returned (.bool true) ∧ Hid (Same w w' ∧ Sat w' F) := by
  have HF := Lib.hid hF
  clear hF
  go_enter Tryz.func4, Tryz.ntmps4
  go_upto_region 2 with (go_at_call 6; refine (snew_ok yC F w HF.out y0 (by decide +kernel)).mono ?_; rintro e w1 ⟨p, rfl, H1⟩)
  go_upto_region 4 with (first
    | (go_at_call 13; refine (up_any p yS0 F w1 H1.out.2).mono ?_; rintro e w' ⟨rfl, rfl⟩)
    | (go_at_call 14; refine (state_any p yS0 F _ w1 H1.out.2).mono ?_; rintro e w' ⟨he, rfl⟩; first | (rw [y1] at he; subst he) | (rw [y2] at he; subst he)))
  go_upto_region 5 with (fail)
  have hA := H1.out.2.alloc (.cells (plA yP) TPl)
  have hB := hA.drew.alloc (.cells (secA z64) 5)
  have k0 : (w1.alloc (.cells (plA yP) TPl)).drew.cell? ⟨w1.heap.size, 0, none⟩ = some (.int .i64 0) ∧ (w1.alloc (.cells (plA yP) TPl)).drew.cell? ⟨w1.heap.size, 1, none⟩ = some (.int .i64 4) ∧ (w1.alloc (.cells (plA yP) TPl)).drew.cell? ⟨w1.heap.size, 2, none⟩ = some (.int .i64 2) := ⟨cells_at hA.drew.block 0, cells_at hA.drew.block 1, cells_at hA.drew.block 2⟩
  have k1 : ((w1.alloc (.cells (plA yP) TPl)).drew.alloc (.cells (secA z64) 5)).cell? ⟨w1.heap.size, 0, none⟩ = some (.int .i64 0) ∧ ((w1.alloc (.cells (plA yP) TPl)).drew.alloc (.cells (secA z64) 5)).cell? ⟨w1.heap.size, 1, none⟩ = some (.int .i64 4) ∧ ((w1.alloc (.cells (plA yP) TPl)).drew.alloc (.cells (secA z64) 5)).cell? ⟨w1.heap.size, 2, none⟩ = some (.int .i64 2) := ⟨cells_at hB.right.block 0, cells_at hB.right.block 1, cells_at hB.right.block 2⟩
  refine reg_begin (fun w' => w'.cell? ⟨w1.heap.size, 0, none⟩ = some (.int .i64 0) ∧ w'.cell? ⟨w1.heap.size, 1, none⟩ = some (.int .i64 4) ∧ w'.cell? ⟨w1.heap.size, 2, none⟩ = some (.int .i64 2)) (by kernel_rfl) ?_
  (apply reg_take 0 rfl rfl (by decide +kernel) rfl); (rintro w' ⟨h1, h2, h3⟩; go_simp; rfl); exact k0; simp only [List.setIfInBounds_toArray, List.set_cons_succ, List.set_cons_zero]
  (apply reg_take 1 rfl rfl (by decide +kernel) rfl); (rintro w' ⟨h1, h2, h3⟩; go_simp; rfl); exact k0; simp only [List.setIfInBounds_toArray, List.set_cons_succ, List.set_cons_zero]
  refine reg_run 2 (.slice (some ⟨(w1.alloc (.cells (plA yP) TPl)).drew.heap.size, 0, none⟩) 64 64) ((w1.alloc (.cells (plA yP) TPl)).drew.alloc (.cells (secA z64) 5)) rfl rfl (by decide +kernel) rfl (exec_make rfl rfl rfl (run_mk64 _)) (k1) ?_; simp only [List.setIfInBounds_toArray, List.set_cons_succ, List.set_cons_zero]
  refine reg_run 3 (.string (strB z64)) ((w1.alloc (.cells (plA yP) TPl)).drew.alloc (.cells (secA z64) 5)) rfl rfl (by decide +kernel) rfl (exec_convert rfl rfl (run_str64 (by decide) _ _ _)) (k1) ?_; simp only [List.setIfInBounds_toArray, List.set_cons_succ, List.set_cons_zero]
  have hS1 : Sat ((w1.alloc (.cells (plA yP) TPl)).drew.alloc (.cells (secA z64) 5)) (shelfAt SH p yS0 * (F * pts w1.heap.size (.cells (plA yP) TPl (0, 0)))) := hB.right.perm (by ac_rfl)
  refine reg_call 4 rfl rfl (by decide +kernel) rfl (f := 15) (args := #[.pointer (some ⟨p, 0, none⟩), .agg (plA yP), .string (strB z64)]) (R := fun v w' => v = .int .i64 0 ∧ Hid (Same w w' ∧ Sat w' (shelfAt SH p yS1 * (F * pts w1.heap.size (.cells (plA yP) TPl (0, 0)))))) (by kernel_rfl)
    ((st_write yP z64 hS1 rfl y3).mono fun e w' h => ⟨_, h.1, rfl, (((H1.out.1.alloc _).drew).alloc _).trans h.2.out.1, h.2.out.2⟩) ?_
  rintro _ w2 ⟨rfl, H2⟩
  have k2 : w2.cell? ⟨w1.heap.size, 0, none⟩ = some (.int .i64 0) ∧ w2.cell? ⟨w1.heap.size, 1, none⟩ = some (.int .i64 4) ∧ w2.cell? ⟨w1.heap.size, 2, none⟩ = some (.int .i64 2) := by
    have h := H2.out.2.perm (show _ = pts w1.heap.size (.cells (plA yP) TPl (0, 0)) * (shelfAt SH p yS1 * F) from by ac_rfl)
    exact ⟨cells_at h.block 0, cells_at h.block 1, cells_at h.block 2⟩
  refine ⟨k2, ?_⟩
  simp only [List.setIfInBounds_toArray, List.set_cons_succ, List.set_cons_zero]
  (apply reg_take 5 rfl rfl (by decide +kernel) rfl); (rintro w' ⟨h1, h2, h3⟩; go_simp; rfl); exact k2; simp only [List.setIfInBounds_toArray, List.set_cons_succ, List.set_cons_zero]
  refine reg_done (by decide +kernel) ?_
  have H3 := Lib.hid (And.intro H2.out.1 (H2.out.2.perm (show _ = pts w1.heap.size (.cells (plA yP) TPl (0, 0)) * (shelfAt SH p yS1 * F) from by ac_rfl)).right)
  clear hA hB k0 k1 hS1 k2 H2 H1 HF
  go_upto_region 7 with (first
    | (at_make; refine wpList_run rfl (exec_make rfl rfl rfl (run_mk64 _)) ?_)
    | ((with_reducible (apply wp_str_sec (s := z64) z64_len)); rfl; rfl; rfl)
    | (go_at_call 15; refine (st_write yQ z64 (H3.out.2.allocKeep _) (by rw [y4]) (by rw [y4])).mono ?_; rintro e w' ⟨rfl, h2⟩; replace H3 := Lib.hid (And.intro ((H3.out.1.alloc _).trans h2.out.1) h2.out.2); clear h2))
  go_wp2_with (first
    | (go_at_call 16; refine (fuse_any p yS1 F 0 _ H3.out.2 (by omega)).mono ?_; rintro e w' ⟨rfl, h2⟩; replace H3 := Lib.hid (And.intro (H3.out.1.trans h2.out.1) (show Sat _ (shelfAt SH p yS2 * F) from h2.out.2)); clear h2)
    | (go_at_call 17; refine (st_flush 0 H3.out.2 rfl y5).mono ?_; rintro e w' ⟨rfl, h2⟩; replace H3 := Lib.hid (And.intro (H3.out.1.trans h2.out.1) (show Sat _ (shelfAt SH p yS3 * F) from h2.out.2)); clear h2)
    | (go_at_call 13; refine (up_any p yS3 F _ H3.out.2).mono ?_; rintro e w' ⟨he, rfl⟩; rw [y6] at he; subst he))
  go_ret
  exact ⟨rfl, H3.out.1, H3.out.2.right⟩
end Go.Proofs.YtogmkbhbmmgidaaGreat
end
section
namespace Go.Proofs.YtogmkbhbmmgidaaGreat
open Go.RowKit Go.Sl Go.ChangeMaps
theorem cf_rot (args : Array Value) (w : World) : (callFunc 75 args).run Tryz.prog w = .ok (.enter 75 args) w := by kernel_rfl
theorem arm_all (p : Nat) (S : ShelfM) (F : HProp) (a : PlaceM) (valid : Bool) (f : DiskM → Int → DiskM × Int) (fid : FuncId) (cap : Array Value) (hcf : ∀ args w, (callFunc fid args).run Tryz.prog w = .ok (.enter fid args) w) (hn : ∀ D n, (f D n).1.n = D.n)
    (hex : ∀ D w' q G, Sat w' (diskAt TD TS q D * (F * G)) → Calls Tryz.prog fid (#[.agg #[ptrV q, .int .i64 1], .int .i64 (S.number a)] ++ cap) w' fun e w'' => e = .returned (.int .i64 (f D (S.number a)).2) ∧ Hid (Same w' w'' ∧ Sat w'' (diskAt TD TS q (f D (S.number a)).1 * (F * G))))
    (w : World) (hS : Sat w (shelfAt SH p S * F)) :
    Calls Tryz.prog 74 #[.pointer (some ⟨p, 0, none⟩), .agg (plA a), .bool valid, .func (.func fid) #[] cap] w fun e w' => e = .returned (.int .i64 (S.arm a valid f).2) ∧ Hid (Same w w' ∧ Sat w' (shelfAt SH p (S.arm a valid f).1 * F)) := by
  by_cases h : S.number a < 0 ∨ valid = false
  · rw [ShelfM.arm_eq_bad S a f valid h]; exact arm_bad p S F a valid fid cap w hS h
  · have hv : valid = true := by cases valid; exact absurd (.inr rfl) h; rfl
    subst hv
    have h0 : 0 ≤ S.number a := by omega
    rw [ShelfM.arm_eq S a f h0 true rfl]
    refine (arm_do p S F F a fid cap (f (S.disk a.disk) (S.number a)).1 (f (S.disk a.disk) (S.number a)).2 hcf h0 (fun _ => hn _ _) (fun _ w' q G h => hex _ w' q G h) w hS).mono ?_
    rintro e w' ⟨rfl, h2⟩
    unfold armR
    have h3 := h2.out.2
    unfold ArmOut at h3
    by_cases h1 : S.state a.disk = 1
    · rw [if_pos h1] at h3 ⊢; rw [if_pos h1]; exact ⟨rfl, h2.out.1, h3⟩
    · rw [if_neg h1] at h3 ⊢; rw [if_neg h1]; exact ⟨rfl, h2.out.1, h3⟩
set_option maxHeartbeats 400000 in
theorem rot1_any (q bB : Nat) (n bit : Int) (D : DiskM) (F G : HProp) (w : World) (hS : Sat w (diskAt TD TS q D * ((pts bB (.cells #[.int .i64 bit] TInt (0, 0)) * F) * G))) :
    Calls Tryz.prog 75 (#[.agg #[ptrV q, .int .i64 1], .int .i64 n] ++ #[ptrV bB]) w fun e w' => e = .returned (.int .i64 (D.rot n bit).2) ∧ Hid (Same w w' ∧ Sat w' (diskAt TD TS q (D.rot n bit).1 * ((pts bB (.cells #[.int .i64 bit] TInt (0, 0)) * F) * G))) := by
  have HS := Lib.hid hS
  have c0 : w.cell? ⟨bB, 0, none⟩ = some (.int .i64 bit) := cells_at (hS.perm (show _ = pts bB (.cells #[.int .i64 bit] TInt (0, 0)) * (diskAt TD TS q D * (F * G)) from by ac_rfl)).block 0
  have l0 := World.block_lt_of_cell? _ _ c0
  simp only at l0
  clear hS
  show Calls Tryz.prog 75 #[.agg #[ptrV q, .int .i64 1], .int .i64 n, ptrV bB] w _
  unfold ptrV
  go_enter Tryz.func75, Tryz.ntmps75
  go_wp2_with (go_at_call 76; refine (rot_all q D _ n bit _ (HS.out.allocKeep _)).mono ?_; rintro e w' ⟨rfl, h1, h2⟩; have H := Lib.hid (And.intro h1 h2); clear h1 h2)
  go_ret
  exact ⟨rfl, ((Same.refl w).alloc _).trans H.out.1, H.out.2⟩
set_option maxHeartbeats 400000 in
theorem srot_any (p : Nat) (S : ShelfM) (F : HProp) (a : PlaceM) (bit : Int) (w : World) (hS : Sat w (shelfAt SH p S * F)) :
    Calls Tryz.prog 34 #[.pointer (some ⟨p, 0, none⟩), .agg (plA a), .int .i64 bit] w fun e w' => e = .returned (.int .i64 (S.rot a bit).2) ∧ Hid (Same w w' ∧ Sat w' (shelfAt SH p (S.rot a bit).1 * F)) := by
  have hA := ((hS.alloc (.cells (plA a) TPl)).alloc (.cells #[.int .i64 bit] TInt))
  rw [World.size_alloc] at hA
  have HA := Lib.hid hA
  have hc := fun valid => arm_all p S (pts (w.heap.size + 1) (.cells #[.int .i64 bit] TInt (0, 0)) * (pts w.heap.size (.cells (plA a) TPl (0, 0)) * F)) a valid (fun D n => D.rot n bit) 75 #[ptrV (w.heap.size + 1)] cf_rot (fun D n => DiskM.rot_n _ _ _)
    (fun D w' q G h => rot1_any q _ _ bit D _ G w' h) _ (hA.perm (by ac_rfl))
  have hr : S.rot a bit = S.arm a (decide (0 ≤ bit) && decide (bit < 512)) fun D n => D.rot n bit := rfl
  rw [hr]
  replace hc := hc (decide (0 ≤ bit) && decide (bit < 512))
  unfold ptrV at hc
  clear hS hA hr
  have fin : ∀ (w2 : World) (S' : ShelfM), Hid (Same ((w.alloc (.cells (plA a) TPl)).alloc (.cells #[.int .i64 bit] TInt)) w2 ∧ Sat w2 (shelfAt SH p S' * (pts (w.heap.size + 1) (.cells #[.int .i64 bit] TInt (0, 0)) * (pts w.heap.size (.cells (plA a) TPl (0, 0)) * F)))) → Hid (Same w w2 ∧ Sat w2 (shelfAt SH p S' * F)) :=
    fun w2 S' h => ⟨(((Same.refl w).alloc _).alloc _).trans h.out.1, (h.out.2.perm (show _ = pts (w.heap.size + 1) (.cells #[.int .i64 bit] TInt (0, 0)) * (pts w.heap.size (.cells (plA a) TPl (0, 0)) * (shelfAt SH p S' * F)) from by ac_rfl)).right.right⟩
  have FIN := Lib.hid fin
  clear fin
  by_cases h0 : 0 ≤ bit
  · have hb : decide (0 ≤ bit) = true := decide_eq_true h0
    rw [hb, Bool.true_and] at hc ⊢
    clear h0
    go_enter Tryz.func34, Tryz.ntmps34
    go_wp2_with (go_at_call 74; refine hc.mono ?_; rintro e w2 ⟨rfl, h2⟩; clear hc)
    go_ret
    exact ⟨rfl, FIN.out _ _ h2⟩
  · have hb : decide (0 ≤ bit) = false := decide_eq_false h0
    rw [hb, Bool.false_and] at hc ⊢
    clear h0
    go_enter Tryz.func34, Tryz.ntmps34
    go_wp2_with (go_at_call 74; refine hc.mono ?_; rintro e w2 ⟨rfl, h2⟩; clear hc)
    go_ret
    exact ⟨rfl, FIN.out _ _ h2⟩
end Go.Proofs.YtogmkbhbmmgidaaGreat
end
section
namespace Go.Proofs.YtogmkbhbmmgidaaGreat
open Go.RowKit Go.Sl Go.ChangeMaps
set_option maxHeartbeats 400000 in
theorem lose_any (p : Nat) (D : DiskM) (F : HProp) (i : Int) (w : World) (hS : Sat w (diskAt TD TS p D * F)) :
    Calls Tryz.prog 78 #[.pointer (some ⟨p, 0, none⟩), .int .i64 i] w fun e w' => e = .returned (.int .i64 (D.lose i).2) ∧ Same w w' ∧ Sat w' (diskAt TD TS p (D.lose i).1 * F) := by
  obtain ⟨v, cb, ab, es, c, l, es2, c2, l2, ⟨hwf, hM, hK, hM2, hK2⟩, hs⟩ := diskAt_iff.1 hS
  obtain ⟨b, cap, rfl⟩ := durAt_slice hs.right
  obtain ⟨q0, q1, q2⟩ := disk_cells hs
  by_cases h : D.has i = true
  · have h2 := DiskM.has_iff.1 h
    have hd : (decide (0 ≤ i) && decide (i < (D.n : Int))) = true := h
    have hab : Sat w (pts ab (.map es2 c2) * (pts p (.cells #[.slice b D.n cap, .map (some cb), .map (some ab)] TD (0, 0)) * (durAt TS D.n D.dur (.slice b D.n cap) * (pts cb (.map es c) * F)))) := hs.perm (by ac_rfl)
    obtain ⟨es3, c3, hrun, hM3⟩ := run_mapUpdate_kv (P := Tryz.prog) Tryz.underlying96 Tryz.underlying3 hab.block hM2 i (.int .i64 (-1))
    have hl : D.lose i = ({ D with armed := fupd D.armed i.toNat (some (-1)) }, 0) := if_pos h
    have hwf' := hwf.lose i
    rw [hl] at hwf' ⊢
    have hfin : Sat (setBlock w ab (.map es3 c3)) (diskAt TD TS p { D with armed := fupd D.armed i.toNat (some (-1)) } * F) :=
      diskAt_iff.2 ⟨.slice b D.n cap, cb, ab, es, c, l, es3, c3, _, ⟨hwf', hM, hK, hM3, hK2.upd h2.1 _⟩, (hab.setBlock (o' := .map es3 c3)).perm (by ac_rfl)⟩
    have HF := Lib.hid hfin
    clear hfin hab hs hS hM hK hM2 hK2 hM3 hwf hwf' hl
    go_enter Tryz.func78, Tryz.ntmps78
    go_wp2_with (go_at_call 93; refine (has_any _ _ _ _ _ _ q0).mono ?_; rintro e w' ⟨rfl, rfl⟩)
    go_ret
    exact ⟨rfl, (Same.refl w).setBlock _, HF.out⟩
  · have hd : (decide (0 ≤ i) && decide (i < (D.n : Int))) = false := by simpa [DiskM.has] using h
    have HS := Lib.hid hS
    clear hS hs hM hK hM2 hK2 hwf
    go_enter Tryz.func78, Tryz.ntmps78
    go_wp2_with (go_at_call 93; refine (has_any _ _ _ _ _ _ q0).mono ?_; rintro e w' ⟨rfl, rfl⟩)
    go_ret
    have hl : D.lose i = (D, 1) := by unfold DiskM.lose; rw [if_neg h]
    rw [hl]
    exact ⟨rfl, Same.refl w, HS.out⟩
end Go.Proofs.YtogmkbhbmmgidaaGreat
end
section
namespace Go.Proofs.YtogmkbhbmmgidaaGreat
open Go.RowKit Go.Sl Go.ChangeMaps
set_option maxHeartbeats 400000 in
theorem misdirect_any (p : Nat) (D : DiskM) (F : HProp) (i tt : Int) (w : World) (hS : Sat w (diskAt TD TS p D * F)) :
    Calls Tryz.prog 80 #[.pointer (some ⟨p, 0, none⟩), .int .i64 i, .int .i64 tt] w fun e w' => e = .returned (.int .i64 (D.misdirect i tt).2) ∧ Same w w' ∧ Sat w' (diskAt TD TS p (D.misdirect i tt).1 * F) := by
  obtain ⟨v, cb, ab, es, ck, l, es2, ck2, l2, ⟨hwf, hM, hK, hM2, hK2⟩, hs⟩ := diskAt_iff.1 hS
  obtain ⟨b, cap, rfl⟩ := durAt_slice hs.right
  obtain ⟨q0, q1, q2⟩ := disk_cells hs
  by_cases h : D.has i = true ∧ D.has tt = true
  · have h2 := DiskM.has_iff.1 h.1
    have hd : (decide (0 ≤ i) && decide (i < (D.n : Int))) = true := h.1
    have hd' : (decide (0 ≤ tt) && decide (tt < (D.n : Int))) = true := h.2
    have hab : Sat w (pts ab (.map es2 ck2) * (pts p (.cells #[.slice b D.n cap, .map (some cb), .map (some ab)] TD (0, 0)) * (durAt TS D.n D.dur (.slice b D.n cap) * (pts cb (.map es ck) * F)))) := hs.perm (by ac_rfl)
    obtain ⟨es3, c3, hrun, hM3⟩ := run_mapUpdate_kv (P := Tryz.prog) Tryz.underlying96 Tryz.underlying3 hab.block hM2 i (.int .i64 tt)
    have hl : D.misdirect i tt = ({ D with armed := fupd D.armed i.toNat (some tt) }, 0) := if_pos h
    have hwf' := hwf.misdirect i tt
    rw [hl] at hwf' ⊢
    have hfin : Sat (setBlock w ab (.map es3 c3)) (diskAt TD TS p { D with armed := fupd D.armed i.toNat (some tt) } * F) :=
      diskAt_iff.2 ⟨.slice b D.n cap, cb, ab, es, ck, l, es3, c3, _, ⟨hwf', hM, hK, hM3, hK2.upd h2.1 _⟩, (hab.setBlock (o' := .map es3 c3)).perm (by ac_rfl)⟩
    have HF := Lib.hid hfin
    clear hfin hab hs hS hM hK hM2 hK2 hM3 hwf hwf' hl h
    go_enter Tryz.func80, Tryz.ntmps80
    go_wp2_with (go_at_call 93; refine (has_any _ _ _ _ _ _ q0).mono ?_; rintro e w' ⟨rfl, rfl⟩)
    go_ret
    exact ⟨rfl, (Same.refl w).setBlock _, HF.out⟩
  · have HS := Lib.hid hS
    have hl : D.misdirect i tt = (D, 1) := if_neg h
    rw [hl]
    by_cases hh : D.has i = true
    · have hd : (decide (0 ≤ i) && decide (i < (D.n : Int))) = true := hh
      have hd' : (decide (0 ≤ tt) && decide (tt < (D.n : Int))) = false := by
        have : ¬ D.has tt = true := fun hc => h ⟨hh, hc⟩
        simpa [DiskM.has] using this
      clear hS hs hM hK hM2 hK2 hwf hl h hh
      go_enter Tryz.func80, Tryz.ntmps80
      go_wp2_with (go_at_call 93; refine (has_any _ _ _ _ _ _ q0).mono ?_; rintro e w' ⟨rfl, rfl⟩)
      go_ret
      exact ⟨rfl, Same.refl w, HS.out⟩
    · have hd : (decide (0 ≤ i) && decide (i < (D.n : Int))) = false := by simpa [DiskM.has] using hh
      clear hS hs hM hK hM2 hK2 hwf hl h hh
      go_enter Tryz.func80, Tryz.ntmps80
      go_wp2_with (go_at_call 93; refine (has_any _ _ _ _ _ _ q0).mono ?_; rintro e w' ⟨rfl, rfl⟩)
      go_ret
      exact ⟨rfl, Same.refl w, HS.out⟩
end Go.Proofs.YtogmkbhbmmgidaaGreat
end
section
namespace Go.Proofs.YtogmkbhbmmgidaaGreat
open Go.RowKit Go.Sl Go.ChangeMaps
theorem cf_lose (args : Array Value) (w : World) : (callFunc 77 args).run Tryz.prog w = .ok (.enter 77 args) w := by kernel_rfl
theorem cf_mis (args : Array Value) (w : World) : (callFunc 79 args).run Tryz.prog w = .ok (.enter 79 args) w := by kernel_rfl
set_option maxHeartbeats 400000 in
theorem lose1_any (q : Nat) (n : Int) (D : DiskM) (G : HProp) (w : World) (hS : Sat w (diskAt TD TS q D * G)) :
    Calls Tryz.prog 77 (#[.agg #[ptrV q, .int .i64 1], .int .i64 n] ++ #[]) w fun e w' => e = .returned (.int .i64 (D.lose n).2) ∧ Hid (Same w w' ∧ Sat w' (diskAt TD TS q (D.lose n).1 * G)) := by
  have HS := Lib.hid hS
  clear hS
  show Calls Tryz.prog 77 #[.agg #[ptrV q, .int .i64 1], .int .i64 n] w _
  unfold ptrV
  go_enter Tryz.func77, Tryz.ntmps77
  go_wp2_with (go_at_call 78; refine (lose_any q D _ n _ (HS.out.allocKeep _)).mono ?_; rintro e w' ⟨rfl, h1, h2⟩; have H := Lib.hid (And.intro h1 h2); clear h1 h2)
  go_ret
  exact ⟨rfl, ((Same.refl w).alloc _).trans H.out.1, H.out.2⟩
set_option maxHeartbeats 400000 in
theorem mis1_any (q bB : Nat) (n bit : Int) (D : DiskM) (F G : HProp) (w : World) (hS : Sat w (diskAt TD TS q D * ((pts bB (.cells #[.int .i64 bit] TInt (0, 0)) * F) * G))) :
    Calls Tryz.prog 79 (#[.agg #[ptrV q, .int .i64 1], .int .i64 n] ++ #[ptrV bB]) w fun e w' => e = .returned (.int .i64 (D.misdirect n bit).2) ∧ Hid (Same w w' ∧ Sat w' (diskAt TD TS q (D.misdirect n bit).1 * ((pts bB (.cells #[.int .i64 bit] TInt (0, 0)) * F) * G))) := by
  have HS := Lib.hid hS
  have c0 : w.cell? ⟨bB, 0, none⟩ = some (.int .i64 bit) := cells_at (hS.perm (show _ = pts bB (.cells #[.int .i64 bit] TInt (0, 0)) * (diskAt TD TS q D * (F * G)) from by ac_rfl)).block 0
  have l0 := World.block_lt_of_cell? _ _ c0
  simp only at l0
  clear hS
  show Calls Tryz.prog 79 #[.agg #[ptrV q, .int .i64 1], .int .i64 n, ptrV bB] w _
  unfold ptrV
  go_enter Tryz.func79, Tryz.ntmps79
  go_wp2_with (go_at_call 80; refine (misdirect_any q D _ n bit _ (HS.out.allocKeep _)).mono ?_; rintro e w' ⟨rfl, h1, h2⟩; have H := Lib.hid (And.intro h1 h2); clear h1 h2)
  go_ret
  exact ⟨rfl, ((Same.refl w).alloc _).trans H.out.1, H.out.2⟩
set_option maxHeartbeats 400000 in
theorem slose_any (p : Nat) (S : ShelfM) (F : HProp) (a : PlaceM) (w : World) (hS : Sat w (shelfAt SH p S * F)) :
    Calls Tryz.prog 35 #[.pointer (some ⟨p, 0, none⟩), .agg (plA a)] w fun e w' => e = .returned (.int .i64 (S.lose a).2) ∧ Hid (Same w w' ∧ Sat w' (shelfAt SH p (S.lose a).1 * F)) := by
  have hA := hS.alloc (.cells (plA a) TPl)
  have hc := arm_all p S (pts w.heap.size (.cells (plA a) TPl (0, 0)) * F) a true (fun D n => D.lose n) 77 #[] cf_lose (fun D n => DiskM.lose_n _ _)
    (fun D w' q G h => lose1_any q _ D (_ * G) w' h) _ (hA.perm (by ac_rfl))
  have hr : S.lose a = S.arm a true fun D n => D.lose n := rfl
  rw [hr]
  clear hS hA hr
  go_enter Tryz.func35, Tryz.ntmps35
  go_wp2_with (go_at_call 74; refine hc.mono ?_; rintro e w2 ⟨rfl, h2⟩; clear hc)
  go_ret
  exact ⟨rfl, ((Same.refl w).alloc _).trans h2.out.1, (h2.out.2.perm (show _ = pts w.heap.size (.cells (plA a) TPl (0, 0)) * (shelfAt SH p _ * F) from by ac_rfl)).right⟩
set_option maxHeartbeats 1000000 in
theorem smis_any (p : Nat) (S : ShelfM) (F : HProp) (a b : PlaceM) (w : World) (hS : Sat w (shelfAt SH p S * F)) :
    Calls Tryz.prog 36 #[.pointer (some ⟨p, 0, none⟩), .agg (plA a), .agg (plA b)] w fun e w' => e = .returned (.int .i64 (S.misdirect a b).2) ∧ Hid (Same w w' ∧ Sat w' (shelfAt SH p (S.misdirect a b).1 * F)) := by
  have hnum := number_any p S F b ((w.alloc (.cells (plA a) TPl)).alloc (.cells (plA b) TPl)) ((hS.allocKeep _).allocKeep _)
  have hr : S.misdirect a b = S.arm a (decide (0 ≤ S.number b) && decide (a.disk = b.disk)) fun D n => D.misdirect n (S.number b) := rfl
  rw [hr]
  obtain ⟨x, hx⟩ : ∃ x, S.number b = x := ⟨_, rfl⟩
  rw [hx] at hnum hr ⊢
  have HS := Lib.hid hS
  obtain ⟨Z, hz⟩ : ∃ Z, (S.arm a (decide (0 ≤ x) && decide (a.disk = b.disk)) fun D n => D.misdirect n x) = Z := ⟨_, rfl⟩
  rw [hz]
  have HZ := Lib.hid hz
  clear hS hr hx hz
  go_enter Tryz.func36, Tryz.ntmps36
  go_upto_region 2 with (go_at_call 57; refine hnum.mono ?_; rintro e w1 ⟨rfl, hb1⟩)
  have hA := ((((HS.out.alloc (.cells (plA a) TPl)).alloc (.cells (plA b) TPl)).below hb1.out).alloc (.cells #[.int .i64 x] TInt))
  have hSm := ((((Same.refl w).alloc (.cells (plA a) TPl)).alloc (.cells (plA b) TPl)).below hb1.out).alloc (.cells #[.int .i64 x] TInt)
  rw [World.size_alloc] at hA
  clear hb1 hnum
  generalize w1.alloc (.cells #[.int .i64 x] TInt) = W at hA hSm ⊢
  generalize w1.heap.size = B2 at hA ⊢
  generalize w.heap.size + 1 = B1 at hA ⊢
  generalize w.heap.size = B0 at hA ⊢
  have q2 : W.cell? ⟨B2, 0, none⟩ = some (.int .i64 x) := cells_at hA.block 0
  have q1 : W.cell? ⟨B1, 0, none⟩ = some (.int .i64 b.disk) := cells_at hA.right.block 0
  have q0 : W.cell? ⟨B0, 0, none⟩ = some (.int .i64 a.disk) := cells_at hA.right.right.block 0
  have q01 : W.cell? ⟨B0, 1, none⟩ = some (.int .i64 a.area) := cells_at hA.right.right.block 1
  have q02 : W.cell? ⟨B0, 2, none⟩ = some (.int .i64 a.index) := cells_at hA.right.right.block 2
  have hc := fun valid => arm_all p S (pts B2 (.cells #[.int .i64 x] TInt (0, 0)) * (pts B1 (.cells (plA b) TPl (0, 0)) * (pts B0 (.cells (plA a) TPl (0, 0)) * F))) a valid (fun D n => D.misdirect n x) 79 #[ptrV B2] cf_mis (fun D n => DiskM.misdirect_n _ _ _)
    (fun D w' q G h => mis1_any q _ _ x D _ G w' h) W (hA.perm (by ac_rfl))
  unfold ptrV at hc
  have HA := Lib.hid hSm
  have fin : ∀ (w2 : World) (S' : ShelfM), Hid (Same W w2 ∧ Sat w2 (shelfAt SH p S' * (pts B2 (.cells #[.int .i64 x] TInt (0, 0)) * (pts B1 (.cells (plA b) TPl (0, 0)) * (pts B0 (.cells (plA a) TPl (0, 0)) * F))))) → Hid (Same w w2 ∧ Sat w2 (shelfAt SH p S' * F)) :=
    fun w2 S' h => ⟨HA.out.trans h.out.1, (h.out.2.perm (show _ = pts B2 (.cells #[.int .i64 x] TInt (0, 0)) * (pts B1 (.cells (plA b) TPl (0, 0)) * (pts B0 (.cells (plA a) TPl (0, 0)) * (shelfAt SH p S' * F))) from by ac_rfl)).right.right.right⟩
  have FIN := Lib.hid fin
  clear fin hA hSm
  by_cases h0 : 0 ≤ x
  · have hb : decide (0 ≤ x) = true := decide_eq_true h0
    by_cases h1 : a.disk = b.disk
    · have he : (a.disk == b.disk) = true := by simp [h1]
      have hz := HZ.out
      rw [hb, decide_eq_true h1] at hz
      replace hc := hc true
      rw [show (S.arm a true fun D n => D.misdirect n x) = Z from hz] at hc
      clear h0 h1 hz
      go_wp2_with (go_at_call 74; refine hc.mono ?_; rintro e w2 ⟨rfl, h2⟩; clear hc)
      go_ret
      exact ⟨rfl, FIN.out _ _ h2⟩
    · have he : (a.disk == b.disk) = false := by simp [h1]
      have hz := HZ.out
      rw [hb, decide_eq_false h1] at hz
      replace hc := hc false
      rw [show (S.arm a false fun D n => D.misdirect n x) = Z from hz] at hc
      clear h0 h1 hz
      go_wp2_with (go_at_call 74; refine hc.mono ?_; rintro e w2 ⟨rfl, h2⟩; clear hc)
      go_ret
      exact ⟨rfl, FIN.out _ _ h2⟩
  · have hb : decide (0 ≤ x) = false := decide_eq_false h0
    have hz := HZ.out
    rw [hb, Bool.false_and] at hz
    replace hc := hc false
    rw [show (S.arm a false fun D n => D.misdirect n x) = Z from hz] at hc
    clear h0 hz
    go_wp2_with (go_at_call 74; refine hc.mono ?_; rintro e w2 ⟨rfl, h2⟩; clear hc)
    go_ret
    exact ⟨rfl, FIN.out _ _ h2⟩
end Go.Proofs.YtogmkbhbmmgidaaGreat
end
