import Derived.Test.YtogmkbhbmmgidaaGreatP07
import Derived.Test.YtogmkbhbmmgidaaGreatP08
import Derived.Test.YtogmkbhbmmgidaaGreatP01
/- Part 9 of a proof; the last part says what is proved. -/
section
namespace Go.Proofs.YtogmkbhbmmgidaaGreat
open Go.RowKit Go.Sl Go.ChangeMaps
abbrev TSh : TypeId := 59
abbrev TBay : TypeId := 63
abbrev TPtr : TypeId := 60
abbrev TCfg : TypeId := 23
abbrev TPl : TypeId := 42
abbrev SH : ShT := ⟨TSh, TBay, TPtr, TD, TS⟩
abbrev cfgA (c : CfgM) : Array Value := #[.int .i64 c.disks, .int .i64 c.racks, .int .i64 c.rows, .int .i64 c.spare, .int .i64 c.log, .int .i64 c.image]
abbrev plA (a : PlaceM) : Array Value := #[.int .i64 a.disk, .int .i64 a.area, .int .i64 a.index]
set_option maxHeartbeats 400000 in
theorem state_any (p : Nat) (S : ShelfM) (F : HProp) (d : Int) (w : World) (hS : Sat w (shelfAt SH p S * F)) :
    Calls Tryz.prog 14 #[.pointer (some ⟨p, 0, none⟩), .int .i64 d] w fun e w' => e = .returned (.int .i64 (S.state d)) ∧ w = w' := by
  have hwf := shelfAt_wf hS
  by_cases h : 0 ≤ d ∧ d < (S.bays.length : Int)
  · obtain ⟨k, rfl⟩ := Int.eq_ofNat_of_zero_le h.1
    obtain ⟨g, cap, q, vi, G, hs, ⟨hpg, hg⟩, c0, c1, hf, _, _⟩ := shelf_bay hS (d := k) (by omega)
    obtain ⟨⟨q6, q7, q8, q9, q10⟩, hp, hfp, hra⟩ := shelf_cells hs
    have h2 := h.2
    obtain ⟨n, hn⟩ : ∃ n, S.bays.length = n := ⟨_, rfl⟩
    rw [hn] at q6 h2
    clear hs hS hwf h hf hfp hra hn
    go_enter Tryz.func14, Tryz.ntmps14
    go_wp2
    go_ret
    exact ⟨rfl, rfl⟩
  · have h0 := (ShelfM.state_pos hwf).2 h
    rw [h0]
    obtain ⟨vb, vi, ps, qs, ⟨_, h1, h2⟩, hs⟩ := shelfAt_iff.1 hS
    obtain ⟨⟨q6, q7, q8, q9, q10⟩, hp, hfp, hra⟩ := shelf_cells hs
    obtain ⟨ao, cap, rfl⟩ := ownAt_slice hs.right
    obtain ⟨n, hn⟩ : ∃ n, S.bays.length = n := ⟨_, rfl⟩
    rw [hn] at q6 h
    clear hs hS hwf h0 hfp hra hn h1 h2
    by_cases hd : d < 0
    · have hd' : decide (d < 0) = true := decide_eq_true hd
      clear hd h
      go_enter Tryz.func14, Tryz.ntmps14
      go_wp2
      go_ret
      exact ⟨rfl, rfl⟩
    · have hd' : decide (d < 0) = false := decide_eq_false hd
      have hd2 : decide ((n : Int) ≤ d) = true := decide_eq_true (by omega)
      clear hd h
      go_enter Tryz.func14, Tryz.ntmps14
      go_wp2
      go_ret
      exact ⟨rfl, rfl⟩
theorem infoTCfg (c : CfgM) : (Tryz.prog.info? TCfg).map (·.size) = some (cfgA c).size := by
  show _ = some 6
  kernel_rfl
set_option maxHeartbeats 400000 in
theorem sizes_any (c : CfgM) (w : World) : Calls Tryz.prog 64 #[.agg (cfgA c)] w fun e w' => e = .returned (.agg #[.int .i64 c.log, .int .i64 c.image, .int .i64 c.image, .int .i64 c.rows]) ∧ Below w.heap.size w w' := by
  go_enter Tryz.func64, Tryz.ntmps64
  go_wp2
  refine bodyPost_ret (v := .agg #[.int .i64 c.log, .int .i64 c.image, .int .i64 c.image, .int .i64 c.rows]) (by simp [results, Tryz.results64, go_sem]) rfl ⟨rfl, ?_⟩
  exact ((Below.refl _ _).alloc (Nat.le_refl _) _).alloc (by simp) _
def psum (c : CfgM) (k : Nat) : Int := match k with | 0 => 0 | 1 => c.log | 2 => c.log + c.image | 3 => c.log + c.image + c.image | _ => c.sectors
structure SecSt (w1 : World) (c : CfgM) (n i : Value) (wr : World) : Prop where
  st : wr = w1 ∧ ∃ k : Nat, k ≤ 4 ∧ i = .int .i64 k ∧ n = .int .i64 (psum c k)
set_option maxHeartbeats 400000 in
theorem sectors_any (c : CfgM) (w : World) (h1 : 0 ≤ c.log ∧ c.log ≤ 65536) (h2 : 0 ≤ c.image ∧ c.image ≤ 65536) (h3 : 0 ≤ c.rows ∧ c.rows ≤ 65536) :
    Calls Tryz.prog 20 #[.agg (cfgA c)] w fun e w' => e = .returned (.int .i64 c.sectors) ∧ Below w.heap.size w w' := by
  obtain ⟨l, hl⟩ : ∃ l, c.log = l := ⟨_, rfl⟩
  obtain ⟨i, hi⟩ : ∃ i, c.image = i := ⟨_, rfl⟩
  obtain ⟨r, hr⟩ : ∃ r, c.rows = r := ⟨_, rfl⟩
  have HL := Lib.hid hl
  have HI := Lib.hid hi
  have HR := Lib.hid hr
  rw [hl] at h1; rw [hi] at h2; rw [hr] at h3
  have hps : ∀ k, psum c k = match k with | 0 => 0 | 1 => l | 2 => l + i | 3 => l + i + i | _ => l + i + i + r := by
    intro k; rw [← hl, ← hi, ← hr]; rfl
  have HPS := Lib.hid hps
  have HE := Lib.hid (show c.sectors = l + i + i + r from HPS.out 4)
  clear hl hi hr hps
  have i0 : ∀ w, (Instr.index 92 (.agg #[.int .i64 l, .int .i64 i, .int .i64 i, .int .i64 r]) (.int .i64 0)).run Tryz.prog w = .ok (.int .i64 l) w := fun _ => by kernel_rfl
  have i1 : ∀ w, (Instr.index 92 (.agg #[.int .i64 l, .int .i64 i, .int .i64 i, .int .i64 r]) (.int .i64 1)).run Tryz.prog w = .ok (.int .i64 i) w := fun _ => by kernel_rfl
  have i2 : ∀ w, (Instr.index 92 (.agg #[.int .i64 l, .int .i64 i, .int .i64 i, .int .i64 r]) (.int .i64 2)).run Tryz.prog w = .ok (.int .i64 i) w := fun _ => by kernel_rfl
  have i3 : ∀ w, (Instr.index 92 (.agg #[.int .i64 l, .int .i64 i, .int .i64 i, .int .i64 r]) (.int .i64 3)).run Tryz.prog w = .ok (.int .i64 r) w := fun _ => by kernel_rfl
  go_enter Tryz.func20, Tryz.ntmps20
  go_wp2_with (go_at_call 64; refine (sizes_any c _).mono ?_; rintro e w1 ⟨rfl, hb⟩; rw [HL.out, HI.out, HR.out]; have HB := Lib.hid hb; clear hb)
  go_loopw [3, 5, 8] (fun n _ i wr => SecSt w1 c n i wr) (fun _ _ i _ => 4 - (intOf i).toNat)
  case atStart => exact ⟨rfl, 0, by omega, rfl, rfl⟩
  case round =>
    obtain ⟨rfl, k, hk, rfl, rfl⟩ := hrel.st
    clear hrel
    have e := HPS.out k
    rcases (show k = 0 ∨ k = 1 ∨ k = 2 ∨ k = 3 ∨ k = 4 by omega) with rfl | rfl | rfl | rfl | rfl
    all_goals (simp only at e; rw [e]; clear e hk)
    · go_wp2
      go_roundw
      case rel => exact ⟨rfl, 1, by omega, rfl, by rw [HPS.out 1]; simp⟩
      case measure => simp [intOf]
    · go_wp2
      go_roundw
      case rel => exact ⟨rfl, 2, by omega, rfl, by rw [HPS.out 2]; rfl⟩
      case measure => simp [intOf]
    · go_wp2
      go_roundw
      case rel => exact ⟨rfl, 3, by omega, rfl, by rw [HPS.out 3]; rfl⟩
      case measure => simp [intOf]
    · go_wp2
      go_roundw
      case rel => exact ⟨rfl, 4, by omega, rfl, by rw [HPS.out 4]; rfl⟩
      case measure => simp [intOf]
    · go_wp2
      go_ret
      exact ⟨by rw [HE.out]; rfl, Below.trans ((Below.refl _ _).alloc (Nat.le_refl _) _) (HB.out.mono (by simp))⟩
theorem load_cfg {w' : World} {p : Nat} {c : CfgM} (h : w'.rangeAt p 0 (cfgL c)) : (Instr.loadAt TCfg (.pointer (some ⟨p, 0, none⟩))).run Tryz.prog w' = .ok (.agg (cfgA c)) w' := by
  have := run_loadAt_mid w' p 0 TCfg (cfgL c) _ h Tryz.underlying23 rfl (by rw [infoTCfg c]; rfl)
  exact this
set_option maxHeartbeats 400000 in
theorem config_any (p : Nat) (S : ShelfM) (F : HProp) (w : World) (hS : Sat w (shelfAt SH p S * F)) :
    Calls Tryz.prog 51 #[.pointer (some ⟨p, 0, none⟩)] w fun e w' => e = .returned (.agg (cfgA S.cfg)) ∧ Below w.heap.size w w' := by
  obtain ⟨vb, vi, ps, qs, ⟨_, h1, h2⟩, hs⟩ := shelfAt_iff.1 hS
  obtain ⟨⟨q6, q7, q8, q9, q10⟩, hp, hfp, hra⟩ := shelf_cells hs
  have c0 := hra 0 _ rfl
  have c1 := hra 1 _ rfl
  have c2 := hra 2 _ rfl
  have c3 := hra 3 _ rfl
  have c4 := hra 4 _ rfl
  have c5 := hra 5 _ rfl
  simp only [Nat.zero_add] at c0 c1 c2 c3 c4 c5
  generalize S.cfg = c at *
  clear hs hS hfp hra h1 h2
  go_enter Tryz.func51, Tryz.ntmps51
  go_wp2
  refine bodyPost_ret (v := .agg (cfgA c)) (by simp [results, Tryz.results51, go_sem]) rfl ⟨rfl, ?_⟩
  exact (Below.refl _ _).alloc (Nat.le_refl _) _
set_option maxHeartbeats 400000 in
theorem access_any (p : Nat) (S : ShelfM) (F : HProp) (d : Int) (w : World) (hS : Sat w (shelfAt SH p S * F)) (hd : S.state d ≠ 0) :
    Calls Tryz.prog 69 #[.pointer (some ⟨p, 0, none⟩), .int .i64 d] w fun e w' => e = .returned (.int .i64 (S.access d)) ∧ w = w' := by
  have hwf := shelfAt_wf hS
  have h := ShelfM.state_in hwf hd
  obtain ⟨k, rfl⟩ := Int.eq_ofNat_of_zero_le h.1
  obtain ⟨g, cap, q, vi, G, hs, ⟨hpg, hg⟩, c0, c1, hf, _, _⟩ := shelf_bay hS (d := k) (by omega)
  obtain ⟨⟨q6, q7, q8, q9, q10⟩, hp, hfp, hra⟩ := shelf_cells hs
  have h2 := h.2
  obtain ⟨n, hn⟩ : ∃ n, S.bays.length = n := ⟨_, rfl⟩
  rw [hn] at q6 h2
  have hacc : S.access (k : Int) = if S.off then 14 else if S.state k = 1 then 0 else 15 := rfl
  rw [hacc]
  generalize S.state k = st at *
  clear hs hS hwf h hf hfp hra hn hacc hd
  cases ho : S.off
  · rw [ho] at q8
    clear ho
    by_cases h1 : st = 1
    · subst h1
      go_enter Tryz.func69, Tryz.ntmps69
      go_wp2
      go_ret
      exact ⟨rfl, rfl⟩
    · have hb : (st != 1) = true := by simp [h1]
      rw [if_neg h1]
      clear h1
      go_enter Tryz.func69, Tryz.ntmps69
      go_wp2
      go_ret
      exact ⟨rfl, rfl⟩
  · rw [ho] at q8
    clear ho
    go_enter Tryz.func69, Tryz.ntmps69
    go_wp2
    go_ret
    exact ⟨rfl, rfl⟩
theorem Sat.shelfSetV {p : Nat} {S S' : ShelfM} {vb : Value} {F : HProp} {w w' : World} (hS : Sat w (shelfV SH p S vb * F)) (hwf : S'.WF) (h1 : S'.cfg = S.cfg) (h2 : S'.bays = S.bays) (h3 : S'.images = S.images)
    (hk : ∀ (c c' : Array Value) (vb vi : Value) (G : HProp), c = shelfC S.cfg vb vi S.off S.fused S.left → c' = shelfC S.cfg vb vi S'.off S'.fused S'.left → Sat w (pts p (.cells c TSh (0, 0)) * G) → Sat w' (pts p (.cells c' TSh (0, 0)) * G)) :
    Sat w' (shelfV SH p S' vb * F) := by
  obtain ⟨vi, ps, qs, ⟨_, h4, h5⟩, hs⟩ := shelfV_iff.1 hS
  refine shelfV_iff.2 ⟨vi, ps, qs, ⟨hwf, by rw [h2]; exact h4, by rw [h3]; exact h5⟩, ?_⟩
  rw [h1, h2, h3]
  exact hk _ _ _ _ _ rfl rfl hs
theorem Sat.shelfSet {p : Nat} {S S' : ShelfM} {F : HProp} {w w' : World} (hS : Sat w (shelfAt SH p S * F)) (hwf : S'.WF) (h1 : S'.cfg = S.cfg) (h2 : S'.bays = S.bays) (h3 : S'.images = S.images)
    (hk : ∀ (c c' : Array Value) (vb vi : Value) (G : HProp), c = shelfC S.cfg vb vi S.off S.fused S.left → c' = shelfC S.cfg vb vi S'.off S'.fused S'.left → Sat w (pts p (.cells c TSh (0, 0)) * G) → Sat w' (pts p (.cells c' TSh (0, 0)) * G)) :
    Sat w' (shelfAt SH p S' * F) := by
  obtain ⟨vb, hS⟩ := shelfAt_V.1 hS
  exact shelfAt_V.2 ⟨vb, Sat.shelfSetV hS hwf h1 h2 h3 hk⟩
set_option maxHeartbeats 400000 in
theorem fuse_any (p : Nat) (S : ShelfM) (F : HProp) (n : Int) (w : World) (hS : Sat w (shelfAt SH p S * F)) (hn : n < 9223372036854775808) :
    Calls Tryz.prog 16 #[.pointer (some ⟨p, 0, none⟩), .int .i64 n] w fun e w' => e = .returned (.tuple #[]) ∧ Hid (Same w w' ∧ Sat w' (shelfAt SH p (S.fuse n) * F)) := by
  have hwf := shelfAt_wf hS
  have hfin : Sat ((w.setCell ⟨p, 9, none⟩ (.bool (decide (0 ≤ n)))).setCell ⟨p, 10, none⟩ (.int .i64 n)) (shelfAt SH p (S.fuse n) * F) := by
    refine Sat.shelfSet hS ⟨hwf.cfg, hwf.bays, hwf.st, hwf.images, fun h => ?_⟩ rfl rfl rfl ?_
    · have : decide (0 ≤ n) = true := h
      exact ⟨by show 0 ≤ n; simpa using this, hn⟩
    · rintro _ _ vb vi G rfl rfl h
      exact (h.setCell _).setCell _
  have HF := Lib.hid hfin
  obtain ⟨vb, vi, ps, qs, ⟨_, h1, h2⟩, hs⟩ := shelfAt_iff.1 hS
  obtain ⟨⟨q6, q7, q8, q9, q10⟩, hp, hfp, hra⟩ := shelf_cells hs
  clear hs hS hra h1 h2 hfin hwf
  go_enter Tryz.func16, Tryz.ntmps16
  go_wp2
  first | go_end0 | go_ret
  exact ⟨rfl, ((Same.refl w).setCell _ _).setCell _ _, HF.out⟩
end Go.Proofs.YtogmkbhbmmgidaaGreat
end
section
namespace Go.Proofs.YtogmkbhbmmgidaaGreat
open Go.RowKit Go.Sl Go.ChangeMaps
set_option maxHeartbeats 400000 in
theorem rin_any (n lo hi : Int) (w : World) : Calls Tryz.prog 65 #[.int .i64 n, .int .i64 lo, .int .i64 hi] w fun e w' => e = .returned (.bool (inB n lo hi)) ∧ w = w' := by
  by_cases h : lo ≤ n
  · have hb : inB n lo hi = decide (n ≤ hi) := by unfold inB; rw [decide_eq_true h]; rfl
    rw [hb]
    have hd : decide (lo ≤ n) = true := decide_eq_true h
    clear h hb
    go_enter Tryz.func65, Tryz.ntmps65
    go_wp2
    go_ret
    exact ⟨rfl, rfl⟩
  · have hb : inB n lo hi = false := by unfold inB; rw [decide_eq_false h]; rfl
    rw [hb]
    have hd : decide (lo ≤ n) = false := decide_eq_false h
    clear h hb
    go_enter Tryz.func65, Tryz.ntmps65
    go_wp2
    go_ret
    exact ⟨rfl, rfl⟩
set_option maxHeartbeats 8000000 in
theorem rcheck_any (c : CfgM) (w : World) : Calls Tryz.prog 22 #[.agg (cfgA c)] w fun e w' => e = .returned (.int .i64 (if c.ok = true then 0 else 1)) ∧ Below w.heap.size w w' := by
  have hok : c.ok = (inB c.disks 1 64 && inB c.racks 1 8 && inB c.rows 1 4096 && inB c.spare 0 (c.disks - 1) && inB c.log 1 65536 && inB c.image 1 65536 && decide (c.disks % c.racks = 0)) := rfl
  cases h1 : inB c.disks 1 64
  case false =>
    have he : c.ok = false := by rw [hok]; simp [h1]
    rw [he]
    clear he hok
    go_enter Tryz.func22, Tryz.ntmps22
    go_wp2_with (go_at_call 65; refine (rin_any _ _ _ _).mono ?_; rintro e w' ⟨rfl, rfl⟩)
    go_ret
    exact ⟨rfl, (Below.refl _ _).alloc (Nat.le_refl _) _⟩
  have hd := h1; unfold inB at hd; simp only [Bool.and_eq_true, decide_eq_true_eq] at hd
  have hd1 := hd.1; have hd2 := hd.2; clear hd
  cases h2 : inB c.racks 1 8
  case false =>
    have he : c.ok = false := by rw [hok]; simp [h2]
    rw [he]
    clear he hok
    go_enter Tryz.func22, Tryz.ntmps22
    go_wp2_with (go_at_call 65; refine (rin_any _ _ _ _).mono ?_; rintro e w' ⟨rfl, rfl⟩)
    go_ret
    exact ⟨rfl, (Below.refl _ _).alloc (Nat.le_refl _) _⟩
  have hr := h2; unfold inB at hr; simp only [Bool.and_eq_true, decide_eq_true_eq] at hr
  have hr1 := hr.1; have hr2 := hr.2; clear hr
  cases h3 : inB c.rows 1 4096
  case false =>
    have he : c.ok = false := by rw [hok]; simp [h3]
    rw [he]
    clear he hok
    go_enter Tryz.func22, Tryz.ntmps22
    go_wp2_with (go_at_call 65; refine (rin_any _ _ _ _).mono ?_; rintro e w' ⟨rfl, rfl⟩)
    go_ret
    exact ⟨rfl, (Below.refl _ _).alloc (Nat.le_refl _) _⟩
  cases h5 : inB c.log 1 65536
  case false =>
    have he : c.ok = false := by rw [hok]; simp [h5]
    rw [he]
    clear he hok
    go_enter Tryz.func22, Tryz.ntmps22
    go_wp2_with (go_at_call 65; refine (rin_any _ _ _ _).mono ?_; rintro e w' ⟨rfl, rfl⟩)
    go_ret
    exact ⟨rfl, (Below.refl _ _).alloc (Nat.le_refl _) _⟩
  cases h6 : inB c.image 1 65536
  case false =>
    have he : c.ok = false := by rw [hok]; simp [h6]
    rw [he]
    clear he hok
    go_enter Tryz.func22, Tryz.ntmps22
    go_wp2_with (go_at_call 65; refine (rin_any _ _ _ _).mono ?_; rintro e w' ⟨rfl, rfl⟩)
    go_ret
    exact ⟨rfl, (Below.refl _ _).alloc (Nat.le_refl _) _⟩
  have hws : IntKind.i64.wrap (c.disks - 1) = c.disks - 1 := IntWalk.i64_in _ (by omega)
  by_cases h7 : c.disks % c.racks = 0
  · have h7' : (c.disks % c.racks != 0) = false := by simp [h7]
    cases h4 : inB c.spare 0 (c.disks - 1)
    · have he : c.ok = false := by rw [hok]; simp [h4]
      rw [he]
      clear he hok h7
      go_enter Tryz.func22, Tryz.ntmps22
      go_wp2_with (go_at_call 65; refine (rin_any _ _ _ _).mono ?_; rintro e w' ⟨rfl, rfl⟩)
      go_ret
      exact ⟨rfl, (Below.refl _ _).alloc (Nat.le_refl _) _⟩
    · have he : c.ok = true := by rw [hok]; simp [h1, h2, h3, h4, h5, h6, h7]
      rw [he]
      clear he hok h7
      go_enter Tryz.func22, Tryz.ntmps22
      go_wp2_with (go_at_call 65; refine (rin_any _ _ _ _).mono ?_; rintro e w' ⟨rfl, rfl⟩)
      go_ret
      exact ⟨rfl, (Below.refl _ _).alloc (Nat.le_refl _) _⟩
  · have he : c.ok = false := by rw [hok]; simp [h7]
    rw [he]
    have h7' : (c.disks % c.racks != 0) = true := by simp [h7]
    clear he hok h7
    go_enter Tryz.func22, Tryz.ntmps22
    go_wp2_with (go_at_call 65; refine (rin_any _ _ _ _).mono ?_; rintro e w' ⟨rfl, rfl⟩)
    go_ret
    exact ⟨rfl, (Below.refl _ _).alloc (Nat.le_refl _) _⟩
end Go.Proofs.YtogmkbhbmmgidaaGreat
end
section
namespace Go.Sl
open Go Go.RowKit
section
variable {P : Program} {ops : Array Oper} {rest : List Oper} {o : Oper} {a : Act} {w : World} {Q : Exit → Act → World → Prop}
theorem exec_alloc_zero {e : TypeId} (ho : o.op = .alloc e) (z : Array Value) (hz : (zeroValue e).run P w = .ok (.agg z) w) :
    (execOp a.eval o).run P w = .ok (.value (.pointer (some ⟨w.heap.size, 0, none⟩))) (w.alloc (.cells z e)) := by
  unfold execOp
  simp [ho, Instr.alloc, hz, newVar, newRow, Value.cells]
theorem exec_store_fresh {ty : TypeId} {x y : Operand} (ho : o.op = .store ty x y) (T : TypeId) (old new : Array Value)
    (hx : a.eval x = .pointer (some ⟨w.heap.size, 0, none⟩)) (hy : a.eval y = .agg new) (hi : (P.info? ty).map (·.size) = some new.size) (hs : new.size = old.size) (h1 : ∀ v ∈ new.toList, v.oneCell' = true) :
    (execOp a.eval o).run P (w.alloc (.cells old T)) = .ok .skip (w.alloc (.cells new T)) := by
  refine exec_store ho hx hy ?_
  have hb : (w.alloc (.cells old T)).heap[w.heap.size]? = some (.cells old T (0, 0)) := heap_alloc_new w _
  have h := run_storeAt_mid (P := P) (w.alloc (.cells old T)) w.heap.size 0 ty new ?_ hi (Array.all_eq_true_iff_forall_mem.2 (fun v hv => h1 v (by simpa using hv)))
  · rw [h]
    rw [setCells_alloc w T new.toList 0 old (by simp; omega)]
    have : (old.toList.take 0 ++ new.toList ++ old.toList.drop (0 + new.toList.length)).toArray = new := by
      simp only [List.take_zero, List.nil_append, Nat.zero_add, Array.length_toList, hs]
      rw [List.drop_of_length_le (by simp)]; simp
    rw [this]
  · intro j hj
    simp only [Nat.zero_add]
    refine ⟨?_, thawed_at hb j⟩
    rw [cells_at hb j]; simp; omega
theorem exec_store_row {ty : TypeId} {x y : Operand} (ho : o.op = .store ty x y) {b off : Nat} {new : Array Value} (hx : a.eval x = .pointer (some ⟨b, off, none⟩)) (hy : a.eval y = .agg new)
    (hi : (P.info? ty).map (·.size) = some new.size) (ht : w.there b off new.size) (h1 : ∀ v ∈ new.toList, v.oneCell' = true) :
    (execOp a.eval o).run P w = .ok .skip (w.setCells b off new.toList) :=
  exec_store ho hx hy (run_storeAt_mid (P := P) w b off ty new ht hi (Array.all_eq_true_iff_forall_mem.2 (fun v hv => h1 v (by simpa using hv))))
theorem exec_append {x y : Operand} {t : TypeId} {v u v' : Value} {w' : World} (ho : o.op = .call { callee := .builtin .append, args := #[x, y], argTypes := #[t, t] }) (hx : a.eval x = v) (hy : a.eval y = u)
    (h : (Builtin.append_ #[t, t] o.type #[v, u]).run P w = .ok v' w') : (execOp a.eval o).run P w = .ok (.value v') w' := by
  unfold execOp
  simp only [ho, resolve, invoke, builtin, Sem.run_bind, Sem.run_pure, Result.andThen_ok, List.map_toArray, List.map_cons, List.map_nil, hx, hy, h]
end
def IntsC (w : World) (v : Value) (l : List Int) : Prop := ∃ ao cap, v = .slice ao l.length cap ∧ l.length ≤ cap ∧ (l ≠ [] → ∃ b off, ao = some ⟨b, off, none⟩ ∧ ∀ j x, l[j]? = some x → w.cell? ⟨b, off + j * 1, none⟩ = some (.int .i64 x))
theorem IntsC.at {w : World} {v : Value} {l : List Int} (h : IntsC w v l) : IntsAt w v l := by
  obtain ⟨ao, cap, rfl, _, h⟩ := h; exact ⟨ao, cap, rfl, h⟩
theorem IntsC.nil (w : World) : IntsC w (.slice none 0 0) [] := ⟨none, 0, rfl, Nat.le_refl _, fun h => absurd rfl h⟩
theorem IntsC.drop {w : World} {ao : Option Addr} {cap m : Nat} {l : List Int} (h : IntsC w (.slice ao l.length cap) l) (hm : m ≤ l.length) :
    IntsC w (.slice (if cap = m then ao else ao.map fun x => x.add m) (l.length - m) (cap - m)) (l.drop m) := by
  obtain ⟨ao', cap', he', hc, h3⟩ := h
  simp only [Value.slice.injEq, true_and] at he'
  obtain ⟨rfl, rfl⟩ := he'
  refine ⟨_, _, by rw [List.length_drop], by rw [List.length_drop]; omega, fun hne => ?_⟩
  have hlt : m < l.length := by
    rcases Nat.lt_or_ge m l.length with h | h
    · exact h
    · exact absurd (List.drop_eq_nil_of_le h) hne
  have hne2 : l ≠ [] := by rintro rfl; simp at hlt
  obtain ⟨b, off, rfl, hcell⟩ := h3 hne2
  refine ⟨b, off + m, ?_, fun j x hj => ?_⟩
  · rw [if_neg (by omega)]; simp [Addr.add_mid]
  · rw [List.getElem?_drop] at hj
    have := hcell (m + j) x hj
    rw [show off + m + j * 1 = off + (m + j) * 1 by omega]; exact this
section
variable {P : Program} {v : Value} {l : List Int} {w0 : World} {T e : TypeId}
theorem slice_hi (h : IntsC w0 v l) {m : Nat} (hm : m ≤ l.length) (hT : P.underlying T = some (.slice e)) (he : (P.info? e).map (·.size) = some 1) :
    ∃ v', (∀ w, (Instr.sliceAt T v none (some (.int .i64 (m : Int))) none).run P w = .ok v' w) ∧ ∀ w', IntsC w' v l → IntsC w' v' (l.take m) := by
  obtain ⟨ao, cap, rfl, hc, _⟩ := h
  obtain ⟨ti, hti, hts⟩ := Option.map_eq_some_iff.1 he
  have hmc : m ≤ cap := by omega
  refine ⟨.slice (if cap = 0 then ao else ao.map (·.add (0 * 1))) m cap, fun w => ?_, fun w' h' => ?_⟩
  · simp [Instr.sliceAt, Instr.slice, run_underlying hT, Instr.sliceBounds, Instr.sliceBound, asIntOf, sizeOf, typeInfo, hti, hmc]
  · obtain ⟨ao', cap', he', _, h3⟩ := h'
    simp only [Value.slice.injEq, true_and] at he'
    obtain ⟨rfl, rfl⟩ := he'
    refine ⟨_, _, by rw [List.length_take, Nat.min_eq_left hm], by rw [List.length_take]; omega, fun hne => ?_⟩
    have hne2 : l ≠ [] := by rintro rfl; simp at hne
    obtain ⟨b, off, rfl, hcell⟩ := h3 hne2
    refine ⟨b, off, ?_, fun j x hj => hcell j x ?_⟩
    · split
      · rfl
      · simp [Addr.add_mid]
    · rw [List.getElem?_take] at hj
      split at hj
      · exact hj
      · cases hj
variable {ops : Array Oper} {rest : List Oper} {o : Oper} {a : Act} {w : World} {Q : Exit → Act → World → Prop}
theorem exec_slice_run {x : Operand} {lo hi : Option Operand} {p v' : Value} (ho : o.op = .slice T x lo hi none) (hx : a.eval x = p) (h : (Instr.sliceAt T p (lo.map a.eval) (hi.map a.eval) none).run P w = .ok v' w) : (execOp a.eval o).run P w = .ok (.value v') w := by
  unfold execOp
  simp [ho, hx, h]
end
end Go.Sl
end
