/- solventlaw17.sanity, built without a script. -/
import Derived.Test.YtogmkbhbmmgidaaTa
import Derived.Test.YtogmkbhbmmgidaaSd
import Derived.Test.YtogmkbhbmmgidaaSu
namespace Go.Proofs.Ytogmkbhbmmgidaa
open Go.RowKit Go.Sl Go.ChangeMaps

def yC : CfgM := ⟨2, 1, 3, 0, 1, 1⟩
def yP : PlaceM := ⟨0, 4, 2⟩
def yQ : PlaceM := ⟨0, 4, 3⟩
def z64 : List UInt8 := List.replicate 64 0
def yS0 : ShelfM := ShelfM.new yC
def yS1 : ShelfM := (yS0.write yP z64).1
def yS2 : ShelfM := yS1.fuse 0
def yS3 : ShelfM := (yS2.flush 0).1
theorem y0 : yC.ok = true := by decide +kernel
theorem y1 : yS0.state 1 = 1 := by decide +kernel
theorem y2 : yS0.state 2 = 0 := by decide +kernel
theorem y3 : (yS0.write yP z64).2 = 0 := by decide +kernel
theorem y4 : yS1.write yQ z64 = (yS1, 1) := by
  have h : yS1.number yQ = -1 := by decide +kernel
  unfold ShelfM.write
  rw [if_pos (by rw [h]; exact .inl (by decide))]
theorem y5 : (yS2.flush 0).2 = 14 := by decide +kernel
theorem y6 : yS3.off = true := by decide +kernel

theorem z64_len : z64.length = 64 := by simp [z64]
theorem made_z64 : madeCells (Value.int .u8 0).cells ((64 : Int).toNat * 1) = secA z64 := by
  show madeCells #[Value.int .u8 0] 64 = secA z64
  unfold madeCells secA secL z64
  apply Array.ext
  · simp
  · intro i h1 h2
    simp [byteV, Nat.mod_one, -List.reduceReplicate]
/-- 'string(make([]byte, 64))' makes a block and reads it. -/
theorem run_mk64 (w : World) : (Instr.makeSlice 52 (.int .i64 64) (.int .i64 64)).run Try.prog w = .ok (.slice (some ⟨w.heap.size, 0, none⟩) 64 64) (w.alloc (.cells (secA z64) 5)) := by
  obtain ⟨i0, hi, hz0, hz1, hz2⟩ := info_parts (show (Try.prog.info? 5).map (fun i => (i.zero, i.size, i.bytes)) = some (some (.int .u8 0), 1, 1) from by kernel_rfl)
  have h := run_makeSlice (P := Try.prog) (w := w) 52 5 i0 _ Try.underlying52 hi hz0 .i64 .i64 64 64 (by omega) (by omega) (by rw [hz1]; decide) (by rw [hz2]; decide) (by omega)
  have e : madeCells (Value.int .u8 0).cells ((64 : Int).toNat * i0.size) = secA z64 := by
    rw [hz1]; exact made_z64
  rw [e] at h
  exact h
theorem run_str64 {s : List UInt8} (hs : s.length = 64) (w : World) (T : TypeId) (c : Nat) : (convert 52 9 (.slice (some ⟨w.heap.size, 0, none⟩) 64 c)).run Try.prog (w.alloc (.cells (secA s) T)) = .ok (.string ⟨s.toArray⟩) (w.alloc (.cells (secA s) T)) := by
  have := run_convert_bytes_back (P := Try.prog) (w.alloc (.cells (secA s) T)) 52 9 5 ⟨w.heap.size, 0, none⟩ c s Try.underlying52 Try.underlying5 Try.underlying9 (by
    intro j hj
    have hb : (w.alloc (.cells (secA s) T)).heap[w.heap.size]? = some (.cells (secA s) T (0, 0)) := heap_alloc_new w _
    rw [Addr.add_mid, cells_at hb]
    simp [secA, secL, byteV, hj])
  rw [hs] at this
  exact this
theorem exec_make {P : Program} {o : Oper} {a : Act} {w w' : World} {T : TypeId} {x y : Operand} {vx vy v : Value} (ho : o.op = .makeSlice T x y) (hx : a.eval x = vx) (hy : a.eval y = vy) (h : (Instr.makeSlice T vx vy).run P w = .ok v w') : (execOp a.eval o).run P w = .ok (.value v) w' := by
  unfold execOp; simp [ho, hx, hy, h]

section
variable {p : Nat} {S S' : ShelfM} {F : HProp} {w : World} {k : Int}
theorem st_write (a : PlaceM) (s : List UInt8) (hS : Sat w (shelfAt SH p S * F)) (h1 : (S.write a s).1 = S') (h2 : (S.write a s).2 = k) :
    Calls Try.prog 23 #[.pointer (some ⟨p, 0, none⟩), .agg (plA a), .string (strB s)] w fun e w' => e = .returned (.int .i64 k) ∧ Hid (Same w w' ∧ Sat w' (shelfAt SH p S' * F)) := by
  subst h1 h2; exact swrite_any p S F a s w hS
theorem st_flush (d : Int) (hS : Sat w (shelfAt SH p S * F)) (h1 : (S.flush d).1 = S') (h2 : (S.flush d).2 = k) :
    Calls Try.prog 19 #[.pointer (some ⟨p, 0, none⟩), .int .i64 d] w fun e w' => e = .returned (.int .i64 k) ∧ Hid (Same w w' ∧ Sat w' (shelfAt SH p S' * F)) := by
  subst h1 h2; exact sflush_any p S F d w hS
theorem st_read (a : PlaceM) {s : List UInt8} (hS : Sat w (shelfAt SH p S * F)) (h : S.read a = (s, k)) :
    Calls Try.prog 22 #[.pointer (some ⟨p, 0, none⟩), .agg (plA a)] w fun e w' => e = .returned (.tuple #[.string (strB s), .int .i64 k]) ∧ Hid (Same w w' ∧ Sat w' (shelfAt SH p S * F)) := by
  refine (sread_any p S F a w hS).mono fun e w' h' => ?_
  unfold ReadOut at h'
  rw [h] at h'
  exact ⟨h'.1, h'.2⟩
end

set_option maxRecDepth 100000 in
set_option maxHeartbeats 2000000 in
theorem sanity_any (F : HProp) (w : World) (hF : Sat w F) : Calls Try.prog 8 #[] w fun e w' => e = .returned (.bool true) ∧ Hid (Same w w' ∧ Sat w' F) := by
  have HF := Lib.hid hF
  clear hF
  go_enter Try.func8, Try.ntmps8
  go_upto_region 2 with (go_at_call 10; refine (snew_ok yC F w HF.out y0 (by decide +kernel)).mono ?_; rintro e w1 ⟨p, rfl, H1⟩)
  go_upto_region 4 with (first
    | (go_at_call 20; refine (up_any p yS0 F w1 H1.out.2).mono ?_; rintro e w' ⟨rfl, rfl⟩)
    | (go_at_call 16; refine (state_any p yS0 F _ w1 H1.out.2).mono ?_; rintro e w' ⟨he, rfl⟩; first | (rw [y1] at he; subst he) | (rw [y2] at he; subst he)))
  go_upto_region 5 with (fail)
  have hA := H1.out.2.alloc (.cells (plA yP) TPl)
  have hB := hA.drew.alloc (.cells (secA z64) 5)
  have k0 : (w1.alloc (.cells (plA yP) TPl)).drew.cell? ⟨w1.heap.size, 0, none⟩ = some (.int .i64 0) ∧ (w1.alloc (.cells (plA yP) TPl)).drew.cell? ⟨w1.heap.size, 1, none⟩ = some (.int .i64 4) ∧ (w1.alloc (.cells (plA yP) TPl)).drew.cell? ⟨w1.heap.size, 2, none⟩ = some (.int .i64 2) := ⟨cells_at hA.drew.block 0, cells_at hA.drew.block 1, cells_at hA.drew.block 2⟩
  have k1 : ((w1.alloc (.cells (plA yP) TPl)).drew.alloc (.cells (secA z64) 5)).cell? ⟨w1.heap.size, 0, none⟩ = some (.int .i64 0) ∧ ((w1.alloc (.cells (plA yP) TPl)).drew.alloc (.cells (secA z64) 5)).cell? ⟨w1.heap.size, 1, none⟩ = some (.int .i64 4) ∧ ((w1.alloc (.cells (plA yP) TPl)).drew.alloc (.cells (secA z64) 5)).cell? ⟨w1.heap.size, 2, none⟩ = some (.int .i64 2) := ⟨cells_at hB.right.block 0, cells_at hB.right.block 1, cells_at hB.right.block 2⟩
  refine reg_begin (fun w' => w'.cell? ⟨w1.heap.size, 0, none⟩ = some (.int .i64 0) ∧ w'.cell? ⟨w1.heap.size, 1, none⟩ = some (.int .i64 4) ∧ w'.cell? ⟨w1.heap.size, 2, none⟩ = some (.int .i64 2)) (by kernel_rfl) ?_
  (apply reg_take 0 rfl rfl (by decide +kernel) rfl); (rintro w' ⟨h1, h2, h3⟩; go_simp; rfl); exact k0; simp only [List.setIfInBounds_toArray, List.set_cons_succ, List.set_cons_zero]
  (apply reg_take 1 rfl rfl (by decide +kernel) rfl); (rintro w' ⟨h1, h2, h3⟩; go_simp; rfl); exact k0; simp only [List.setIfInBounds_toArray, List.set_cons_succ, List.set_cons_zero]
  refine reg_run 2 (.slice (some ⟨(w1.alloc (.cells (plA yP) TPl)).drew.heap.size, 0, none⟩) 64 64) ((w1.alloc (.cells (plA yP) TPl)).drew.alloc (.cells (secA z64) 5)) rfl rfl (by decide +kernel) rfl (exec_make rfl rfl rfl (run_mk64 _)) (k1) ?_; simp only [List.setIfInBounds_toArray, List.set_cons_succ, List.set_cons_zero]
  refine reg_run 3 (.string (strB z64)) ((w1.alloc (.cells (plA yP) TPl)).drew.alloc (.cells (secA z64) 5)) rfl rfl (by decide +kernel) rfl (exec_convert rfl rfl (run_str64 (by decide) _ _ _)) (k1) ?_; simp only [List.setIfInBounds_toArray, List.set_cons_succ, List.set_cons_zero]
  have hS1 : Sat ((w1.alloc (.cells (plA yP) TPl)).drew.alloc (.cells (secA z64) 5)) (shelfAt SH p yS0 * (F * pts w1.heap.size (.cells (plA yP) TPl (0, 0)))) := hB.right.perm (by ac_rfl)
  refine reg_call 4 rfl rfl (by decide +kernel) rfl (f := 23) (args := #[.pointer (some ⟨p, 0, none⟩), .agg (plA yP), .string (strB z64)]) (R := fun v w' => v = .int .i64 0 ∧ Hid (Same w w' ∧ Sat w' (shelfAt SH p yS1 * (F * pts w1.heap.size (.cells (plA yP) TPl (0, 0)))))) (by kernel_rfl)
    ((st_write yP z64 hS1 rfl y3).mono fun e w' h => ⟨_, h.1, rfl, (((H1.out.1.alloc _).drew).alloc _).trans h.2.out.1, h.2.out.2⟩) ?_
  rintro _ w2 ⟨rfl, H2⟩
  have k2 : w2.cell? ⟨w1.heap.size, 0, none⟩ = some (.int .i64 0) ∧ w2.cell? ⟨w1.heap.size, 1, none⟩ = some (.int .i64 4) ∧ w2.cell? ⟨w1.heap.size, 2, none⟩ = some (.int .i64 2) := by
    have h := H2.out.2.perm (show _ = pts w1.heap.size (.cells (plA yP) TPl (0, 0)) * (shelfAt SH p yS1 * F) from by ac_rfl)
    exact ⟨cells_at h.block 0, cells_at h.block 1, cells_at h.block 2⟩
  refine ⟨k2, ?_⟩
  simp only [List.setIfInBounds_toArray, List.set_cons_succ, List.set_cons_zero]
  (apply reg_take 5 rfl rfl (by decide +kernel) rfl); (rintro w' ⟨h1, h2, h3⟩; go_simp; rfl); exact k2; simp only [List.setIfInBounds_toArray, List.set_cons_succ, List.set_cons_zero]
  refine reg_done (by decide +kernel) ?_
  have H3 := Lib.hid (And.intro H2.out.1 (H2.out.2.perm (show _ = pts w1.heap.size (.cells (plA yP) TPl (0, 0)) * (shelfAt SH p yS1 * F) from by ac_rfl)).right)
  clear hA hB k0 k1 hS1 k2 H2 H1 HF
  go_upto_region 7 with (first
    | (at_make; refine wpList_run rfl (exec_make rfl rfl rfl (run_mk64 _)) ?_)
    | ((with_reducible (apply wp_str_sec (s := z64) z64_len)); rfl; rfl; rfl)
    | (go_at_call 23; refine (st_write yQ z64 (H3.out.2.allocKeep _) (by rw [y4]) (by rw [y4])).mono ?_; rintro e w' ⟨rfl, h2⟩; replace H3 := Lib.hid (And.intro ((H3.out.1.alloc _).trans h2.out.1) h2.out.2); clear h2))
  go_wp2_with (first
    | (go_at_call 18; refine (fuse_any p yS1 F 0 _ H3.out.2 (by omega)).mono ?_; rintro e w' ⟨rfl, h2⟩; replace H3 := Lib.hid (And.intro (H3.out.1.trans h2.out.1) (show Sat _ (shelfAt SH p yS2 * F) from h2.out.2)); clear h2)
    | (go_at_call 19; refine (st_flush 0 H3.out.2 rfl y5).mono ?_; rintro e w' ⟨rfl, h2⟩; replace H3 := Lib.hid (And.intro (H3.out.1.trans h2.out.1) (show Sat _ (shelfAt SH p yS3 * F) from h2.out.2)); clear h2)
    | (go_at_call 20; refine (up_any p yS3 F _ H3.out.2).mono ?_; rintro e w' ⟨he, rfl⟩; rw [y6] at he; subst he))
  go_ret
  exact ⟨rfl, H3.out.1, H3.out.2.right⟩

theorem small_bound {c : CfgM} (h1 : smallB c = true) (h2 : c.ok = true) : c.disks ≤ 6 ∧ c.sectors ≤ 24 := by
  unfold smallB at h1
  simp only [Bool.and_eq_true, decide_eq_true_eq] at h1
  obtain ⟨⟨⟨⟨a1, a2⟩, a3⟩, a4⟩, a5⟩ := h1
  unfold CfgM.ok inB at h2
  simp only [Bool.and_eq_true, decide_eq_true_eq] at h2
  obtain ⟨⟨⟨⟨⟨⟨⟨_, _⟩, _, _⟩, c1, c2⟩, d1, d2⟩, e1, e2⟩, f1, f2⟩, _⟩ := h2
  refine ⟨a1, ?_⟩
  unfold sec17 wrap64 at a5
  unfold CfgM.sectors
  omega

set_option maxHeartbeats 1000000 in
theorem built_no (c : CfgM) (v : Value) (l : Nat) (hv : ∃ ao cap, v = .slice ao l cap) (F : HProp) (w : World) (hF : Sat w F) (h : smallB c = false ∨ 60 < l ∨ c.ok = false) :
    Calls Try.prog 15 #[.agg (cfgA c), v] w fun e w' => e = .returned (.tuple #[.pointer none, .bool false]) ∧ Hid (Same w w' ∧ Sat w' F) := by
  obtain ⟨ao, cap, rfl⟩ := hv
  have H1 := Lib.hid (And.intro ((Same.refl w).alloc (.cells (cfgA c) TCfg)) (hF.alloc (.cells (cfgA c) TCfg)))
  have hsm := small_any c (w.alloc (.cells (cfgA c) TCfg))
  clear hF
  cases h1 : smallB c
  · rw [h1] at hsm
    clear h h1
    go_enter Try.func15, Try.ntmps15
    go_wp2_with (go_at_call 9; refine hsm.mono ?_; rintro e w1 ⟨rfl, hb⟩; replace H1 := Lib.hid (And.intro (H1.out.1.below hb.out) (H1.out.2.below hb.out)); clear hb hsm)
    go_ret2
    exact ⟨rfl, H1.out.1, H1.out.2.right⟩
  · rw [h1] at hsm h
    by_cases h2 : 60 < l
    · have hl : decide ((60 : Int) < (l : Int)) = true := decide_eq_true (by omega)
      clear h h1 h2
      go_enter Try.func15, Try.ntmps15
      go_wp2_with (go_at_call 9; refine hsm.mono ?_; rintro e w1 ⟨rfl, hb⟩; replace H1 := Lib.hid (And.intro (H1.out.1.below hb.out) (H1.out.2.below hb.out)); clear hb hsm)
      go_ret2
      exact ⟨rfl, H1.out.1, H1.out.2.right⟩
    · have hl : decide ((60 : Int) < (l : Int)) = false := decide_eq_false (by omega)
      have hok : c.ok = false := by rcases h with h | h | h; cases h; omega; exact h
      have HOK := Lib.hid hok
      clear h h1 h2 hok
      go_enter Try.func15, Try.ntmps15
      go_wp2_with (first
        | (go_at_call 9; refine hsm.mono ?_; rintro e w1 ⟨rfl, hb⟩; replace H1 := Lib.hid (And.intro (H1.out.1.below hb.out) (H1.out.2.below hb.out)); obtain ⟨⟨b0, b1, b2⟩, ⟨b3, b4, b5⟩, bl, br⟩ := cfg_cells H1.out.2; clear hb hsm br)
        | (go_at_call 10; refine (snew_bad c _ _ H1.out.2 HOK.out).mono ?_; rintro e w2 ⟨rfl, h2⟩; replace H1 := Lib.hid (And.intro (H1.out.1.trans h2.out.1) h2.out.2); clear h2))
      go_ret2
      exact ⟨rfl, H1.out.1, H1.out.2.right⟩

set_option maxHeartbeats 1000000 in
theorem built_nil (c : CfgM) (F : HProp) (w : World) (hF : Sat w F) (h1 : smallB c = true) (h2 : c.ok = true) :
    Calls Try.prog 15 #[.agg (cfgA c), .slice none 0 0] w fun e w' => ∃ p, e = .returned (.tuple #[.pointer (some ⟨p, 0, none⟩), .bool true]) ∧ Hid (Same w w' ∧ Sat w' (shelfAt SH p (ShelfM.new c) * F)) := by
  have H1 := Lib.hid (And.intro ((Same.refl w).alloc (.cells (cfgA c) TCfg)) (hF.alloc (.cells (cfgA c) TCfg)))
  have hsm := small_any c (w.alloc (.cells (cfgA c) TCfg))
  rw [h1] at hsm
  have hsb := (small_bound h1 h2).2
  have HB := Lib.hid (And.intro h2 (show c.sectors ≤ 65536 by omega))
  clear hF h1 h2 hsb
  go_enter Try.func15, Try.ntmps15
  go_wp2_with (first
    | (go_at_call 9; refine hsm.mono ?_; rintro e w1 ⟨rfl, hb⟩; replace H1 := Lib.hid (And.intro (H1.out.1.below hb.out) (H1.out.2.below hb.out)); obtain ⟨⟨b0, b1, b2⟩, ⟨b3, b4, b5⟩, bl, br⟩ := cfg_cells H1.out.2; clear hb hsm br)
    | (go_at_call 10; refine (snew_ok c _ _ H1.out.2 HB.out.1 HB.out.2).mono ?_; rintro e w2 ⟨p, rfl, h2⟩; replace H1 := Lib.hid (And.intro (H1.out.1.trans h2.out.1) (h2.out.2.perm (show _ = pts w.heap.size (.cells (cfgA c) TCfg (0, 0)) * (shelfAt SH p (ShelfM.new c) * F) from by ac_rfl)).right); clear h2 b0 b1 b2 b3 b4 b5 bl))
  go_loopw [8] (fun i wr => i = .int .i64 0 ∧ wr = w2) (fun _ _ => 0)
  case atStart => exact ⟨rfl, rfl⟩
  case round =>
    obtain ⟨rfl, rfl⟩ := hrel
    go_wp2
    go_ret2
    exact ⟨_, rfl, H1.out⟩

end Go.Proofs.Ytogmkbhbmmgidaa
