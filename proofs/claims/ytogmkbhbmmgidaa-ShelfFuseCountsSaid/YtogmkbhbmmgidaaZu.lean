/- ShelfFuseCounts: after Mount and Fuse(n) exactly n flushes are executed before one returns ErrDown, from then on every access returns ErrDown, and after Mount the power is on without a fuse. No condition. -/
import Derived.Test.YtogmkbhbmmgidaaTe
import Derived.Test.YtogmkbhbmmgidaaSk
namespace Go.Proofs.Ytogmkbhbmmgidaa
open Go.RowKit Go.Sl Go.ChangeMaps Go.ChangeShapes Go.WideShapes Go.ChangeAt

abbrev TPlay : TypeId := 41
abbrev plyA (c : CfgM) (v : Value) (cp : Int) : Array Value := #[.int .i64 c.disks, .int .i64 c.racks, .int .i64 c.rows, .int .i64 c.spare, .int .i64 c.log, .int .i64 c.image, v, .int .i64 cp]
theorem ply_cells {w : World} {B : Nat} {c : CfgM} {v : Value} {cp : Int} {X : HProp} (h : Sat w (pts B (.cells (plyA c v cp) TPlay (0, 0)) * X)) :
    (w.cell? ⟨B, 0, none⟩ = some (.int .i64 c.disks) ∧ w.cell? ⟨B, 1, none⟩ = some (.int .i64 c.racks) ∧ w.cell? ⟨B, 2, none⟩ = some (.int .i64 c.rows) ∧ w.cell? ⟨B, 3, none⟩ = some (.int .i64 c.spare) ∧ w.cell? ⟨B, 4, none⟩ = some (.int .i64 c.log) ∧ w.cell? ⟨B, 5, none⟩ = some (.int .i64 c.image)) ∧
    w.cell? ⟨B, 6, none⟩ = some v ∧ B < w.heap.size := by
  have hb := cells_at h.block
  exact ⟨⟨hb 0, hb 1, hb 2, hb 3, hb 4, hb 5⟩, hb 6, h.lt⟩

structure FindSt (wb : World) (c : CfgM) (i : Value) (wr : World) : Prop where
  st : wr = wb ∧ ∃ k : Nat, (k : Int) ≤ c.disks ∧ i = .int .i64 k
structure FlSt (w : World) (p B0 : Nat) (A : Array Value) (d m : Nat) (i : Value) (wr : World) : Prop where
  st : ∃ (k : Nat) (S : ShelfM), k ≤ m ∧ i = .int .i64 k ∧ ShelfM.FuseI S d ((m - k : Nat) : Int) ∧ Same w wr ∧ Sat wr (pts B0 (.cells A TPlay (0, 0)) * (shelfAt SH p S * old w))

set_option maxRecDepth 100000 in
set_option maxHeartbeats 4000000 in
theorem fuse_law (c : CfgM) (v : Value) (l : List (OpN × Value)) (cp : Int) (x : Nat) (hx : x < 256) (w : World) (hscr : ScrN w v l) :
    Calls Try.prog 4 #[.agg (plyA c v cp), .int .u8 (x : Int)] w fun e w' => e = .returned (.bool true) ∧ Below w.heap.size w w' := by
  obtain ⟨ao, cap, rfl, _⟩ := id hscr
  have H1 := Lib.hid (And.intro ((Same.refl w).alloc (.cells (plyA c (.slice ao l.length cap) cp) TPlay)) ((Sat.old w).alloc (.cells (plyA c (.slice ao l.length cap) cp) TPlay)))
  have HSC := Lib.hid hscr
  clear hscr
  go_enter Try.func4, Try.ntmps4
  go_upto_region 2 with (go_at_call 8; refine (sanity_any _ _ H1.out.2).mono ?_; rintro e w1 ⟨rfl, h2⟩; replace H1 := Lib.hid (And.intro (H1.out.1.trans h2.out.1) h2.out.2); clear h2)
  generalize w.heap.size = B0 at H1 ⊢
  obtain ⟨⟨a0, a1, a2, a3, a4, a5⟩, a6, al⟩ := ply_cells H1.out.2
  by_cases hsm : smallB c = true ∧ c.ok = true ∧ l.length ≤ 60
  case neg =>
    have hno : smallB c = false ∨ 60 < l.length ∨ c.ok = false := by
      cases h1 : smallB c
      · exact .inl rfl
      · cases h2 : c.ok
        · exact .inr (.inr rfl)
        · exact .inr (.inl (by have : ¬ l.length ≤ 60 := fun h => hsm ⟨h1, h2, h⟩; omega))
    have HNO := Lib.hid hno
    clear hsm hno
    go_wp2_with (go_at_call 15; refine (built_no c _ l.length ⟨ao, cap, rfl⟩ _ _ H1.out.2 HNO.out).mono ?_; rintro e w3 ⟨rfl, h2⟩; replace H1 := Lib.hid (And.intro (H1.out.1.trans h2.out.1) h2.out.2); clear h2)
    go_ret
    exact ⟨rfl, H1.out.1.below_of H1.out.2⟩
  have HSM := Lib.hid hsm
  clear hsm
  have hb := built_any c (.slice ao l.length cap) l _ w1 H1.out.2 (fun w' h => ScrN.old HSC.out h) HSM.out.1 HSM.out.2.1 HSM.out.2.2
  generalize hS0 : runN (ShelfM.new c) l = S0 at hb
  go_upto_region 5 with (go_at_call 15; refine hb.mono ?_; rintro e w3 ⟨p, rfl, h2⟩; replace H1 := Lib.hid (And.intro (H1.out.1.trans h2.out.1) (h2.out.2.perm (show _ = pts B0 (.cells (plyA c (.slice ao l.length cap) cp) TPlay (0, 0)) * (shelfAt SH p S0 * old w) from by ac_rfl))); clear h2)
  clear hb hS0
  have hd1 : 1 ≤ c.disks ∧ c.disks ≤ 64 := (ok_wf HSM.out.2.1 (by have := small_bound HSM.out.1 HSM.out.2.1; omega)).disks
  clear a0 a1 a2 a3 a4 a5 a6 al
  obtain ⟨⟨a0, a1, a2, a3, a4, a5⟩, a6, al⟩ := ply_cells H1.out.2
  have hxm : (x : Int) % 41 = ((x % 41 : Nat) : Int) := by omega
  have hm41 : x % 41 < 41 := Nat.mod_lt _ (by omega)
  generalize hmm : x % 41 = m at hxm hm41
  clear hmm
  go_wp2
  go_loopw [8] (fun i wr => FindSt w3 c i wr) (fun i _ => c.disks.toNat - (intOf i).toNat)
  case atStart => exact ⟨rfl, 0, by omega, rfl⟩
  case round =>
    obtain ⟨rfl, k, hk, rfl⟩ := hrel.st
    clear hrel
    by_cases hlt : (k : Int) < c.disks
    case neg =>
      have hke : (k : Int) = c.disks := by omega
      have hltd : decide ((k : Int) < c.disks) = false := decide_eq_false hlt
      have heq : ((k : Int) == c.disks) = true := by simp [hke]
      clear hke hlt
      go_wp2
      go_ret
      exact ⟨rfl, H1.out.1.below_of (H1.out.2.perm (show _ = pts B0 (.cells (plyA c (.slice ao l.length cap) cp) TPlay (0, 0)) * shelfAt SH p S0 * old w from by ac_rfl))⟩
    have hltd : decide ((k : Int) < c.disks) = true := decide_eq_true hlt
    have hk64 : (k : Int) ≤ 64 := by omega
    have hneq : ((k : Int) == c.disks) = false := by simp; omega
    have hst := state_any p S0 _ (k : Int) wr (H1.out.2.perm (show _ = shelfAt SH p S0 * (pts B0 (.cells (plyA c (.slice ao l.length cap) cp) TPlay (0, 0)) * old w) from by ac_rfl))
    by_cases hs1 : S0.state (k : Int) = 1
    case neg =>
      have hsb : (S0.state (k : Int) != 1) = true := by simp [hs1]
      generalize S0.state (k : Int) = st at hst hsb
      clear hs1
      go_wp2_with (go_at_call 16; refine hst.mono ?_; rintro e w' ⟨rfl, rfl⟩; clear hst)
      go_roundw
      case rel => exact ⟨rfl, k + 1, by omega, rfl⟩
      case measure => simp only [intOf]; omega
    rw [hs1] at hst
    have hw0 := shelfAt_wf (H1.out.2.perm (show _ = shelfAt SH p S0 * (pts B0 (.cells (plyA c (.slice ao l.length cap) cp) TPlay (0, 0)) * old w) from by ac_rfl))
    have hI0 : (S0.mount []).state (k : Int) = 1 := by rw [ShelfM.mount_state]; exact hs1
    have HI0 := Lib.hid hI0
    clear hs1 hI0 hw0
    go_upto_region 10 with (go_at_call 16; refine hst.mono ?_; rintro e w' ⟨rfl, rfl⟩; clear hst)
    go_wp2_with (fail)
    refine (mount_any p S0 _ (.slice none 0 0) [] wr (H1.out.2.perm (show _ = shelfAt SH p S0 * (pts B0 (.cells (plyA c (.slice ao l.length cap) cp) TPlay (0, 0)) * old w) from by ac_rfl)) (fun w' _ => IntsC.nil w') (by simp)).mono ?_
    rintro e wa ⟨rfl, h2⟩
    replace H1 := Lib.hid (And.intro (H1.out.1.trans h2.out.1) (h2.out.2.perm (show _ = pts B0 (.cells (plyA c (.slice ao l.length cap) cp) TPlay (0, 0)) * (shelfAt SH p (S0.mount []) * old w) from by ac_rfl)))
    clear h2 a0 a1 a2 a3 a4 a5 a6 al
    obtain ⟨⟨a0, a1, a2, a3, a4, a5⟩, a6, al⟩ := ply_cells H1.out.2
    have hI : ShelfM.FuseI ((S0.mount []).fuse (m : Int)) (k : Int) (m : Int) := ⟨rfl, HI0.out, by show decide (0 ≤ (m : Int)) = true; exact decide_eq_true (by omega), rfl⟩
    have HI := Lib.hid hI
    clear hI
    have hfu := fuse_any p (S0.mount []) (pts B0 (.cells (plyA c (.slice ao l.length cap) cp) TPlay (0, 0)) * old w) (m : Int) wa (H1.out.2.perm (show _ = shelfAt SH p (S0.mount []) * (pts B0 (.cells (plyA c (.slice ao l.length cap) cp) TPlay (0, 0)) * old w) from by ac_rfl)) (by omega)
    go_wp2_with (fail)
    refine hfu.mono ?_
    rintro e wf ⟨rfl, h2⟩
    clear hfu
    replace H1 := Lib.hid (And.intro (H1.out.1.trans h2.out.1) (h2.out.2.perm (show _ = pts B0 (.cells (plyA c (.slice ao l.length cap) cp) TPlay (0, 0)) * (shelfAt SH p ((S0.mount []).fuse (m : Int)) * old w) from by ac_rfl)))
    clear h2 a0 a1 a2 a3 a4 a5 a6 al
    obtain ⟨⟨a0, a1, a2, a3, a4, a5⟩, a6, al⟩ := ply_cells H1.out.2
    generalize (S0.mount []).fuse (m : Int) = S1 at H1 HI
    go_wp2
    go_loopw [9] (fun i wr => FlSt w p B0 (plyA c (.slice ao l.length cap) cp) k m i wr) (fun i _ => m - (intOf i).toNat)
    case atStart => exact ⟨0, S1, by omega, rfl, HI.out, H1.out.1, H1.out.2⟩
    case round =>
      obtain ⟨j, S2, hj, rfl, hI2, hsm2, hs2⟩ := hrel.st
      clear hrel H1 HI HI0 a0 a1 a2 a3 a4 a5 a6 al
      have H1 := Lib.hid (And.intro hsm2 hs2)
      have HI := Lib.hid hI2
      clear hsm2 hs2 hI2
      obtain ⟨⟨a0, a1, a2, a3, a4, a5⟩, a6, al⟩ := ply_cells H1.out.2
      have hw2 := shelfAt_wf (H1.out.2.perm (show _ = shelfAt SH p S2 * (pts B0 (.cells (plyA c (.slice ao l.length cap) cp) TPlay (0, 0)) * old w) from by ac_rfl))
      have HW2 := Lib.hid hw2
      clear hw2
      by_cases hjm : j < m
      · have hjd : decide ((j : Int) < (m : Int)) = true := decide_eq_true (by omega)
        have hj41 : (j : Int) ≤ 41 := by omega
        obtain ⟨f0, fI⟩ := ShelfM.flush_more HW2.out HI.out (by omega)
        have hfl := st_flush (p := p) (F := pts B0 (.cells (plyA c (.slice ao l.length cap) cp) TPlay (0, 0)) * old w) (k : Int) (H1.out.2.perm (show _ = shelfAt SH p S2 * (pts B0 (.cells (plyA c (.slice ao l.length cap) cp) TPlay (0, 0)) * old w) from by ac_rfl)) rfl f0
        have HFI := Lib.hid fI
        clear f0 fI
        go_wp2_with (go_at_call 19; refine hfl.mono ?_; rintro e wg ⟨rfl, h2⟩; clear hfl)
        go_roundw
        case rel =>
          refine ⟨⟨j + 1, (S2.flush k).1, by omega, rfl, ?_, H1.out.1.trans h2.out.1, h2.out.2.perm (show _ = pts B0 (.cells (plyA c (.slice ao l.length cap) cp) TPlay (0, 0)) * (shelfAt SH p (S2.flush k).1 * old w) from by ac_rfl)⟩⟩
          have := HFI.out
          rw [show ((m - j : Nat) : Int) - 1 = ((m - (j + 1) : Nat) : Int) by omega] at this
          exact this
        case measure => simp only [intOf]; omega
      obtain rfl : j = m := by omega
      have hjd : decide ((j : Int) < (j : Int)) = false := decide_eq_false (by omega)
      have hI0 : ShelfM.FuseI S2 k 0 := by have := HI.out; rw [Nat.sub_self] at this; exact this
      have hf14 := ShelfM.flush_last hI0
      have hup1 := up_any p S2 (pts B0 (.cells (plyA c (.slice ao l.length cap) cp) TPlay (0, 0)) * old w) wr (H1.out.2.perm (show _ = shelfAt SH p S2 * (pts B0 (.cells (plyA c (.slice ao l.length cap) cp) TPlay (0, 0)) * old w) from by ac_rfl))
      rw [hI0.off] at hup1
      have hfl := st_flush (p := p) (F := pts B0 (.cells (plyA c (.slice ao l.length cap) cp) TPlay (0, 0)) * old w) (k : Int) (H1.out.2.perm (show _ = shelfAt SH p S2 * (pts B0 (.cells (plyA c (.slice ao l.length cap) cp) TPlay (0, 0)) * old w) from by ac_rfl)) (by rw [hf14]) (by rw [hf14])
      have hst2 := hI0.st
      have HST2 := Lib.hid hst2
      clear hI0 hf14 hst2
      go_upto_region 17 with (fail)
      go_wp2_with (fail)
      refine hup1.mono ?_
      rintro e w' ⟨rfl, rfl⟩
      clear hup1
      go_wp2_with (fail)
      refine hfl.mono ?_
      rintro e wg ⟨rfl, h2⟩
      clear hfl
      replace H1 := Lib.hid (And.intro (H1.out.1.trans h2.out.1) (h2.out.2.perm (show _ = pts B0 (.cells (plyA c (.slice ao l.length cap) cp) TPlay (0, 0)) * (shelfAt SH p { S2 with off := true, fused := false } * old w) from by ac_rfl)))
      clear h2 a0 a1 a2 a3 a4 a5 a6 al
      have hS3 : ∃ S3 : ShelfM, S3 = { S2 with off := true, fused := false } := ⟨_, rfl⟩
      obtain ⟨S3, hS3⟩ := hS3
      have hst3 : S3.state k = 1 := by rw [hS3]; exact HST2.out
      have hof3 : S3.off = true := by rw [hS3]
      rw [← hS3] at H1
      clear hS3 HST2
      have HS3 := Lib.hid (And.intro hst3 (And.intro hof3 (shelfAt_wf (H1.out.2.perm (show _ = shelfAt SH p S3 * (pts B0 (.cells (plyA c (.slice ao l.length cap) cp) TPlay (0, 0)) * old w) from by ac_rfl)))))
      have hup2 := up_any p S3 (pts B0 (.cells (plyA c (.slice ao l.length cap) cp) TPlay (0, 0)) * old w) wg (H1.out.2.perm (show _ = shelfAt SH p S3 * (pts B0 (.cells (plyA c (.slice ao l.length cap) cp) TPlay (0, 0)) * old w) from by ac_rfl))
      rw [hof3] at hup2
      have hfa := flushAll_any p S3 (pts B0 (.cells (plyA c (.slice ao l.length cap) cp) TPlay (0, 0)) * old w) wg (H1.out.2.perm (show _ = shelfAt SH p S3 * (pts B0 (.cells (plyA c (.slice ao l.length cap) cp) TPlay (0, 0)) * old w) from by ac_rfl))
      rw [ShelfM.down_flushAll hof3] at hfa
      clear hst3 hof3
      go_wp2_with (fail)
      refine hup2.mono ?_
      rintro e w' ⟨rfl, rfl⟩
      clear hup2
      go_wp2_with (fail)
      refine hfa.mono ?_
      rintro e wh ⟨rfl, h2⟩
      clear hfa
      replace H1 := Lib.hid (And.intro (H1.out.1.trans h2.out.1) (h2.out.2.perm (show _ = pts B0 (.cells (plyA c (.slice ao l.length cap) cp) TPlay (0, 0)) * (shelfAt SH p S3 * old w) from by ac_rfl)))
      clear h2
      have hrd := st_read (p := p) (F := pts B0 (.cells (plyA c (.slice ao l.length cap) cp) TPlay (0, 0)) * old w) ⟨(k : Int), 1, 0⟩ (H1.out.2.perm (show _ = shelfAt SH p S3 * (pts B0 (.cells (plyA c (.slice ao l.length cap) cp) TPlay (0, 0)) * old w) from by ac_rfl)) (ShelfM.down_read HS3.out.2.2 (by rw [HS3.out.1]; decide) HS3.out.2.1)
      go_wp2_with (fail)
      refine hrd.mono ?_
      rintro e wi ⟨rfl, h2⟩
      clear hrd
      replace H1 := Lib.hid (And.intro (H1.out.1.trans h2.out.1) (h2.out.2.perm (show _ = pts B0 (.cells (plyA c (.slice ao l.length cap) cp) TPlay (0, 0)) * (shelfAt SH p S3 * old w) from by ac_rfl)))
      clear h2
      have hwr := st_write (p := p) (F := pts B0 (.cells (plyA c (.slice ao l.length cap) cp) TPlay (0, 0)) * old w) ⟨(k : Int), 1, 0⟩ z64 ((H1.out.2.allocKeep (.cells (secA z64) 5)).perm (show _ = shelfAt SH p S3 * (pts B0 (.cells (plyA c (.slice ao l.length cap) cp) TPlay (0, 0)) * old w) from by ac_rfl)) (by rw [ShelfM.down_write HS3.out.2.2 (by rw [HS3.out.1]; decide) HS3.out.2.1 z64_len]) (by rw [ShelfM.down_write HS3.out.2.2 (by rw [HS3.out.1]; decide) HS3.out.2.1 z64_len])
      go_upto_region 21 with (first
        | (at_make; refine wpList_run rfl (exec_make rfl rfl rfl (run_mk64 _)) ?_)
        | ((with_reducible (apply wp_str_sec (s := z64) z64_len)); rfl; rfl; rfl)
        | (go_at_call 23; refine hwr.mono ?_; rintro e wj ⟨rfl, h2⟩; clear hwr; replace H1 := Lib.hid (And.intro ((H1.out.1.alloc _).trans h2.out.1) (h2.out.2.perm (show _ = pts B0 (.cells (plyA c (.slice ao l.length cap) cp) TPlay (0, 0)) * (shelfAt SH p S3 * old w) from by ac_rfl))); clear h2))
      have hmo := mount_any p S3 _ (.slice none 0 0) [] wj (H1.out.2.perm (show _ = shelfAt SH p S3 * (pts B0 (.cells (plyA c (.slice ao l.length cap) cp) TPlay (0, 0)) * old w) from by ac_rfl)) (fun w' _ => IntsC.nil w') (by simp)
      go_wp2_with (fail)
      refine hmo.mono ?_
      rintro e wk ⟨rfl, h2⟩
      clear hmo
      replace H1 := Lib.hid (And.intro (H1.out.1.trans h2.out.1) (h2.out.2.perm (show _ = pts B0 (.cells (plyA c (.slice ao l.length cap) cp) TPlay (0, 0)) * (shelfAt SH p (S3.mount []) * old w) from by ac_rfl)))
      clear h2
      have hup3 := up_any p (S3.mount []) (pts B0 (.cells (plyA c (.slice ao l.length cap) cp) TPlay (0, 0)) * old w) wk (H1.out.2.perm (show _ = shelfAt SH p (S3.mount []) * (pts B0 (.cells (plyA c (.slice ao l.length cap) cp) TPlay (0, 0)) * old w) from by ac_rfl))
      rw [show (S3.mount []).off = false from rfl] at hup3
      have hfl := st_flush (p := p) (F := pts B0 (.cells (plyA c (.slice ao l.length cap) cp) TPlay (0, 0)) * old w) (k : Int) (H1.out.2.perm (show _ = shelfAt SH p (S3.mount []) * (pts B0 (.cells (plyA c (.slice ao l.length cap) cp) TPlay (0, 0)) * old w) from by ac_rfl)) rfl (ShelfM.on_flush (by rw [ShelfM.mount_state]; exact HS3.out.1) rfl rfl)
      go_wp2_with (fail)
      refine hup3.mono ?_
      rintro e w' ⟨rfl, rfl⟩
      clear hup3
      go_wp2_with (fail)
      refine hfl.mono ?_
      rintro e wl ⟨rfl, h2⟩
      clear hfl
      go_wp2
      go_ret
      exact ⟨rfl, (H1.out.1.trans h2.out.1).below_of (h2.out.2.perm (show _ = shelfAt SH p _ * pts B0 (.cells (plyA c (.slice ao l.length cap) cp) TPlay (0, 0)) * old w from by ac_rfl))⟩


set_option maxRecDepth 20000 in
theorem rd_play {w : World} {cs : List Value} (h : Rd Try.prog w TPlay cs) : ∃ c v l cp, cs = (plyA c v cp).toList ∧ ScrN w v l ∧ (Lit.int .i64 cp).wf = true := by
  obtain ⟨hl, hf⟩ := Rd.struct Try.underlying41 h
  rw [show Try.prog.cellsOf TPlay = 8 by kernel_rfl] at hl
  have k1 : Try.prog.cellsOf 3 = 1 := by kernel_rfl
  have k3 : Try.prog.cellsOf TCfg = 6 := by kernel_rfl
  have k4 : Try.prog.cellsOf 39 = 1 := by kernel_rfl
  match cs, hl with
  | [a0, a1, a2, a3, a4, a5, a6, a7], _ =>
    simp only [List.mem_cons, List.not_mem_nil, or_false, forall_eq_or_imp, forall_eq, k1, k3, k4, List.drop_zero, List.drop_succ_cons, List.take_succ_cons, List.take_zero] at hf
    obtain ⟨h0, h1, h2⟩ := hf
    obtain ⟨c, e0⟩ := rd_cfg h0
    obtain ⟨v, l, e1, hs⟩ := rd_script h1
    obtain ⟨n4, e4, w4⟩ := Rd.int Try.underlying3 h2
    refine ⟨c, v, l, n4, ?_, hs, w4⟩
    simp [cfgL] at e0 e1 e4
    obtain ⟨rfl, rfl, rfl, rfl, rfl, rfl⟩ := e0
    subst e1 e4
    rfl


set_option maxRecDepth 100000 in
theorem shelfFuseCounts_lifted (os : Os) (started : os.Started) (H : Type) (enc : TypeId × Value → H) :
    ReturnsInHanded {} Try.checked os 4 .any (Rows.shelfFuseCountsSpec.pre6 enc Try.prog Try.f4 Rows.shelfFuseCountsRow.domain false) (Rows.shelfFuseCountsSpec.post enc Try.prog Try.f4 false true false false) := by
  refine returnsInHanded_of_change (C := Try.checked) law_own started (by kernel_rfl) Try.func4
    (ChangeSpec.witness6 (enc := enc) (C := Try.checked) false ⟨#[], #[.agg (plyA ⟨0, 0, 0, 0, 0, 0⟩ (.slice none 0 0) 0), .int .u8 0], []⟩ 8 (by kernel_rfl) (by kernel_rfl) (by kernel_rfl) (by kernel_rfl)) ?_
  intro W base args ds gs before hval0 hW _ _
  have hval : ∀ (j : Nat) t v, Try.f4.params[j]? = some t → args[j]? = some v → Value.okWide Try.prog W .any base t v := hval0
  have hW' := hW
  obtain ⟨p, q, hA0, hV, rfl, _, _⟩ := hW
  have hA : DataW.TrodAll enc Try.prog W 0 (fun _ => true) true Try.f4.params.toList args.toList ds p := hA0
  rw [Try.params4] at hA hval
  obtain ⟨w0, vs0, d0, ds0, p0, q0, hargs, rfl, rfl, h0, r0⟩ := trodAll_cons hA
  obtain ⟨w1, vs1, d1, ds1, p1, q1, rfl, rfl, rfl, h1, r1⟩ := trodAll_cons r0
  obtain ⟨rfl, rfl, rfl⟩ := trodAll_nil r1
  obtain rfl : args = #[w0, w1] := by cases args; simp_all
  obtain ⟨rfl, rfl⟩ := trodVars_none hV
  obtain ⟨cs0, rfl, _⟩ := okWide_struct Try.underlying41 (hval 0 _ w0 rfl rfl)
  obtain ⟨c, v, l, cp, e0, hscr, hcp⟩ := rd_play (trod_rd h0)
  obtain rfl : cs0 = plyA c v cp := by apply Array.ext'; simpa [Value.cells] using e0
  obtain ⟨b1, rfl, rfl, rfl, wf1⟩ := open_int Try.underlying5 (hval 1 5 w1 rfl rfl) h1
  have hb1 := bounds_u8 wf1
  obtain ⟨n1, rfl⟩ := Int.eq_ofNat_of_zero_le hb1.1
  refine (fuse_law c v l cp n1 (by omega) W hscr).mono fun e W' ⟨he, hg⟩ => ?_
  subst he
  exact ⟨_, rfl, law_post (by kernel_rfl) rfl (of_decide_eq_true (by kernel_rfl)) rfl hW' hg⟩

theorem shelfFuseCounts_holds : Rows.ShelfFuseCountsSaid :=
  OpenClaim.holds_of_wide 4 Try.f4 rfl rfl rfl rfl rfl rfl rfl ⟨rfl, rfl, rfl, rfl, rfl⟩ rfl rfl rfl rfl rfl (by kernel_rfl) Try.func4 (by kernel_rfl)
    (of_decide_eq_true (by kernel_rfl)) (by unfold Func.isWrapper; first | (rw [if_pos (by decide +kernel)]; kernel_rfl) | (rw [if_neg (by decide +kernel)]; exact ⟨rfl, rfl⟩))
    (fun os started H enc _ => shelfFuseCounts_lifted os started H enc)


end Go.Proofs.Ytogmkbhbmmgidaa
