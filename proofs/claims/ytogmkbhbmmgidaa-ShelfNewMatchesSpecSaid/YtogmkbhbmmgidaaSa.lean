/- The walks over package shelf that only read: State, Up, Config, sizes, sectors, number, access, want; and Fuse. -/
import Derived.Test.YtogmkbhbmmgidaaDz
import Derived.Test.YtogmkbhbmmgidaaSm
namespace Go.Proofs.Ytogmkbhbmmgidaa
open Go.RowKit Go.Sl Go.ChangeMaps

abbrev TSh : TypeId := 75
abbrev TBay : TypeId := 79
abbrev TPtr : TypeId := 76
abbrev TCfg : TypeId := 23
abbrev TPl : TypeId := 25
abbrev SH : ShT := ⟨TSh, TBay, TPtr, TD, TS⟩
abbrev cfgA (c : CfgM) : Array Value := #[.int .i64 c.disks, .int .i64 c.racks, .int .i64 c.rows, .int .i64 c.spare, .int .i64 c.log, .int .i64 c.image]
abbrev plA (a : PlaceM) : Array Value := #[.int .i64 a.disk, .int .i64 a.area, .int .i64 a.index]

set_option maxHeartbeats 400000 in
theorem state_any (p : Nat) (S : ShelfM) (F : HProp) (d : Int) (w : World) (hS : Sat w (shelfAt SH p S * F)) :
    Calls Try.prog 16 #[.pointer (some ⟨p, 0, none⟩), .int .i64 d] w fun e w' => e = .returned (.int .i64 (S.state d)) ∧ w = w' := by
  have hwf := shelfAt_wf hS
  by_cases h : 0 ≤ d ∧ d < (S.bays.length : Int)
  · obtain ⟨k, rfl⟩ := Int.eq_ofNat_of_zero_le h.1
    obtain ⟨g, cap, q, vi, G, hs, ⟨hpg, hg⟩, c0, c1, hf, _, _⟩ := shelf_bay hS (d := k) (by omega)
    obtain ⟨⟨q6, q7, q8, q9, q10⟩, hp, hfp, hra⟩ := shelf_cells hs
    have h2 := h.2
    obtain ⟨n, hn⟩ : ∃ n, S.bays.length = n := ⟨_, rfl⟩
    rw [hn] at q6 h2
    clear hs hS hwf h hf hfp hra hn
    go_enter Try.func16, Try.ntmps16
    go_wp2
    go_ret
    exact ⟨rfl, rfl⟩
  · have h0 := (ShelfM.state_pos hwf).2 h
    rw [h0]
    obtain ⟨vb, vi, ps, qs, ⟨_, h1, h2⟩, hs⟩ := shelfAt_iff.1 hS
    obtain ⟨⟨q6, q7, q8, q9, q10⟩, hp, hfp, hra⟩ := shelf_cells hs
    obtain ⟨ao, cap, rfl⟩ := ownAt_slice hs.right
    obtain ⟨n, hn⟩ : ∃ n, S.bays.length = n := ⟨_, rfl⟩
    rw [hn] at q6 h
    clear hs hS hwf h0 hfp hra hn h1 h2
    by_cases hd : d < 0
    · have hd' : decide (d < 0) = true := decide_eq_true hd
      clear hd h
      go_enter Try.func16, Try.ntmps16
      go_wp2
      go_ret
      exact ⟨rfl, rfl⟩
    · have hd' : decide (d < 0) = false := decide_eq_false hd
      have hd2 : decide ((n : Int) ≤ d) = true := decide_eq_true (by omega)
      clear hd h
      go_enter Try.func16, Try.ntmps16
      go_wp2
      go_ret
      exact ⟨rfl, rfl⟩

theorem infoTCfg (c : CfgM) : (Try.prog.info? TCfg).map (·.size) = some (cfgA c).size := by
  show _ = some 6
  kernel_rfl

set_option maxHeartbeats 400000 in
theorem sizes_any (c : CfgM) (w : World) : Calls Try.prog 57 #[.agg (cfgA c)] w fun e w' => e = .returned (.agg #[.int .i64 c.log, .int .i64 c.image, .int .i64 c.image, .int .i64 c.rows]) ∧ Below w.heap.size w w' := by
  go_enter Try.func57, Try.ntmps57
  go_wp2
  refine bodyPost_ret (v := .agg #[.int .i64 c.log, .int .i64 c.image, .int .i64 c.image, .int .i64 c.rows]) (by simp [results, Try.results57, go_sem]) rfl ⟨rfl, ?_⟩
  exact ((Below.refl _ _).alloc (Nat.le_refl _) _).alloc (by simp) _

def psum (c : CfgM) (k : Nat) : Int := match k with | 0 => 0 | 1 => c.log | 2 => c.log + c.image | 3 => c.log + c.image + c.image | _ => c.sectors

structure SecSt (w1 : World) (c : CfgM) (n i : Value) (wr : World) : Prop where
  st : wr = w1 ∧ ∃ k : Nat, k ≤ 4 ∧ i = .int .i64 k ∧ n = .int .i64 (psum c k)

set_option maxHeartbeats 400000 in
theorem sectors_any (c : CfgM) (w : World) (h1 : 0 ≤ c.log ∧ c.log ≤ 65536) (h2 : 0 ≤ c.image ∧ c.image ≤ 65536) (h3 : 0 ≤ c.rows ∧ c.rows ≤ 65536) :
    Calls Try.prog 31 #[.agg (cfgA c)] w fun e w' => e = .returned (.int .i64 c.sectors) ∧ Below w.heap.size w w' := by
  obtain ⟨l, hl⟩ : ∃ l, c.log = l := ⟨_, rfl⟩
  obtain ⟨i, hi⟩ : ∃ i, c.image = i := ⟨_, rfl⟩
  obtain ⟨r, hr⟩ : ∃ r, c.rows = r := ⟨_, rfl⟩
  have HL := Lib.hid hl
  have HI := Lib.hid hi
  have HR := Lib.hid hr
  rw [hl] at h1; rw [hi] at h2; rw [hr] at h3
  have hps : ∀ k, psum c k = match k with | 0 => 0 | 1 => l | 2 => l + i | 3 => l + i + i | _ => l + i + i + r := by
    intro k; rw [← hl, ← hi, ← hr]; rfl
  have HPS := Lib.hid hps
  have HE := Lib.hid (show c.sectors = l + i + i + r from HPS.out 4)
  clear hl hi hr hps
  have i0 : ∀ w, (Instr.index 102 (.agg #[.int .i64 l, .int .i64 i, .int .i64 i, .int .i64 r]) (.int .i64 0)).run Try.prog w = .ok (.int .i64 l) w := fun _ => by kernel_rfl
  have i1 : ∀ w, (Instr.index 102 (.agg #[.int .i64 l, .int .i64 i, .int .i64 i, .int .i64 r]) (.int .i64 1)).run Try.prog w = .ok (.int .i64 i) w := fun _ => by kernel_rfl
  have i2 : ∀ w, (Instr.index 102 (.agg #[.int .i64 l, .int .i64 i, .int .i64 i, .int .i64 r]) (.int .i64 2)).run Try.prog w = .ok (.int .i64 i) w := fun _ => by kernel_rfl
  have i3 : ∀ w, (Instr.index 102 (.agg #[.int .i64 l, .int .i64 i, .int .i64 i, .int .i64 r]) (.int .i64 3)).run Try.prog w = .ok (.int .i64 r) w := fun _ => by kernel_rfl
  go_enter Try.func31, Try.ntmps31
  go_wp2_with (go_at_call 57; refine (sizes_any c _).mono ?_; rintro e w1 ⟨rfl, hb⟩; rw [HL.out, HI.out, HR.out]; have HB := Lib.hid hb; clear hb)
  go_loopw [3, 5, 8] (fun n _ i wr => SecSt w1 c n i wr) (fun _ _ i _ => 4 - (intOf i).toNat)
  case atStart => exact ⟨rfl, 0, by omega, rfl, rfl⟩
  case round =>
    obtain ⟨rfl, k, hk, rfl, rfl⟩ := hrel.st
    clear hrel
    have e := HPS.out k
    rcases (show k = 0 ∨ k = 1 ∨ k = 2 ∨ k = 3 ∨ k = 4 by omega) with rfl | rfl | rfl | rfl | rfl
    all_goals (simp only at e; rw [e]; clear e hk)
    · go_wp2
      go_roundw
      case rel => exact ⟨rfl, 1, by omega, rfl, by rw [HPS.out 1]; simp⟩
      case measure => simp [intOf]
    · go_wp2
      go_roundw
      case rel => exact ⟨rfl, 2, by omega, rfl, by rw [HPS.out 2]; rfl⟩
      case measure => simp [intOf]
    · go_wp2
      go_roundw
      case rel => exact ⟨rfl, 3, by omega, rfl, by rw [HPS.out 3]; rfl⟩
      case measure => simp [intOf]
    · go_wp2
      go_roundw
      case rel => exact ⟨rfl, 4, by omega, rfl, by rw [HPS.out 4]; rfl⟩
      case measure => simp [intOf]
    · go_wp2
      go_ret
      exact ⟨by rw [HE.out]; rfl, Below.trans ((Below.refl _ _).alloc (Nat.le_refl _) _) (HB.out.mono (by simp))⟩

theorem load_cfg {w' : World} {p : Nat} {c : CfgM} (h : w'.rangeAt p 0 (cfgL c)) : (Instr.loadAt TCfg (.pointer (some ⟨p, 0, none⟩))).run Try.prog w' = .ok (.agg (cfgA c)) w' := by
  have := run_loadAt_mid w' p 0 TCfg (cfgL c) _ h Try.underlying23 rfl (by rw [infoTCfg c]; rfl)
  exact this

set_option maxHeartbeats 400000 in
theorem config_any (p : Nat) (S : ShelfM) (F : HProp) (w : World) (hS : Sat w (shelfAt SH p S * F)) :
    Calls Try.prog 41 #[.pointer (some ⟨p, 0, none⟩)] w fun e w' => e = .returned (.agg (cfgA S.cfg)) ∧ Below w.heap.size w w' := by
  obtain ⟨vb, vi, ps, qs, ⟨_, h1, h2⟩, hs⟩ := shelfAt_iff.1 hS
  obtain ⟨⟨q6, q7, q8, q9, q10⟩, hp, hfp, hra⟩ := shelf_cells hs
  have c0 := hra 0 _ rfl
  have c1 := hra 1 _ rfl
  have c2 := hra 2 _ rfl
  have c3 := hra 3 _ rfl
  have c4 := hra 4 _ rfl
  have c5 := hra 5 _ rfl
  simp only [Nat.zero_add] at c0 c1 c2 c3 c4 c5
  generalize S.cfg = c at *
  clear hs hS hfp hra h1 h2
  go_enter Try.func41, Try.ntmps41
  go_wp2
  refine bodyPost_ret (v := .agg (cfgA c)) (by simp [results, Try.results41, go_sem]) rfl ⟨rfl, ?_⟩
  exact (Below.refl _ _).alloc (Nat.le_refl _) _

set_option maxHeartbeats 400000 in
theorem access_any (p : Nat) (S : ShelfM) (F : HProp) (d : Int) (w : World) (hS : Sat w (shelfAt SH p S * F)) (hd : S.state d ≠ 0) :
    Calls Try.prog 51 #[.pointer (some ⟨p, 0, none⟩), .int .i64 d] w fun e w' => e = .returned (.int .i64 (S.access d)) ∧ w = w' := by
  have hwf := shelfAt_wf hS
  have h := ShelfM.state_in hwf hd
  obtain ⟨k, rfl⟩ := Int.eq_ofNat_of_zero_le h.1
  obtain ⟨g, cap, q, vi, G, hs, ⟨hpg, hg⟩, c0, c1, hf, _, _⟩ := shelf_bay hS (d := k) (by omega)
  obtain ⟨⟨q6, q7, q8, q9, q10⟩, hp, hfp, hra⟩ := shelf_cells hs
  have h2 := h.2
  obtain ⟨n, hn⟩ : ∃ n, S.bays.length = n := ⟨_, rfl⟩
  rw [hn] at q6 h2
  have hacc : S.access (k : Int) = if S.off then 14 else if S.state k = 1 then 0 else 15 := rfl
  rw [hacc]
  generalize S.state k = st at *
  clear hs hS hwf h hf hfp hra hn hacc hd
  cases ho : S.off
  · rw [ho] at q8
    clear ho
    by_cases h1 : st = 1
    · subst h1
      go_enter Try.func51, Try.ntmps51
      go_wp2
      go_ret
      exact ⟨rfl, rfl⟩
    · have hb : (st != 1) = true := by simp [h1]
      rw [if_neg h1]
      clear h1
      go_enter Try.func51, Try.ntmps51
      go_wp2
      go_ret
      exact ⟨rfl, rfl⟩
  · rw [ho] at q8
    clear ho
    go_enter Try.func51, Try.ntmps51
    go_wp2
    go_ret
    exact ⟨rfl, rfl⟩

theorem Sat.shelfSetV {p : Nat} {S S' : ShelfM} {vb : Value} {F : HProp} {w w' : World} (hS : Sat w (shelfV SH p S vb * F)) (hwf : S'.WF) (h1 : S'.cfg = S.cfg) (h2 : S'.bays = S.bays) (h3 : S'.images = S.images)
    (hk : ∀ (c c' : Array Value) (vb vi : Value) (G : HProp), c = shelfC S.cfg vb vi S.off S.fused S.left → c' = shelfC S.cfg vb vi S'.off S'.fused S'.left → Sat w (pts p (.cells c TSh (0, 0)) * G) → Sat w' (pts p (.cells c' TSh (0, 0)) * G)) :
    Sat w' (shelfV SH p S' vb * F) := by
  obtain ⟨vi, ps, qs, ⟨_, h4, h5⟩, hs⟩ := shelfV_iff.1 hS
  refine shelfV_iff.2 ⟨vi, ps, qs, ⟨hwf, by rw [h2]; exact h4, by rw [h3]; exact h5⟩, ?_⟩
  rw [h1, h2, h3]
  exact hk _ _ _ _ _ rfl rfl hs
theorem Sat.shelfSet {p : Nat} {S S' : ShelfM} {F : HProp} {w w' : World} (hS : Sat w (shelfAt SH p S * F)) (hwf : S'.WF) (h1 : S'.cfg = S.cfg) (h2 : S'.bays = S.bays) (h3 : S'.images = S.images)
    (hk : ∀ (c c' : Array Value) (vb vi : Value) (G : HProp), c = shelfC S.cfg vb vi S.off S.fused S.left → c' = shelfC S.cfg vb vi S'.off S'.fused S'.left → Sat w (pts p (.cells c TSh (0, 0)) * G) → Sat w' (pts p (.cells c' TSh (0, 0)) * G)) :
    Sat w' (shelfAt SH p S' * F) := by
  obtain ⟨vb, hS⟩ := shelfAt_V.1 hS
  exact shelfAt_V.2 ⟨vb, Sat.shelfSetV hS hwf h1 h2 h3 hk⟩

set_option maxHeartbeats 400000 in
theorem fuse_any (p : Nat) (S : ShelfM) (F : HProp) (n : Int) (w : World) (hS : Sat w (shelfAt SH p S * F)) (hn : n < 9223372036854775808) :
    Calls Try.prog 18 #[.pointer (some ⟨p, 0, none⟩), .int .i64 n] w fun e w' => e = .returned (.tuple #[]) ∧ Hid (Same w w' ∧ Sat w' (shelfAt SH p (S.fuse n) * F)) := by
  have hwf := shelfAt_wf hS
  have hfin : Sat ((w.setCell ⟨p, 9, none⟩ (.bool (decide (0 ≤ n)))).setCell ⟨p, 10, none⟩ (.int .i64 n)) (shelfAt SH p (S.fuse n) * F) := by
    refine Sat.shelfSet hS ⟨hwf.cfg, hwf.bays, hwf.st, hwf.images, fun h => ?_⟩ rfl rfl rfl ?_
    · have : decide (0 ≤ n) = true := h
      exact ⟨by show 0 ≤ n; simpa using this, hn⟩
    · rintro _ _ vb vi G rfl rfl h
      exact (h.setCell _).setCell _
  have HF := Lib.hid hfin
  obtain ⟨vb, vi, ps, qs, ⟨_, h1, h2⟩, hs⟩ := shelfAt_iff.1 hS
  obtain ⟨⟨q6, q7, q8, q9, q10⟩, hp, hfp, hra⟩ := shelf_cells hs
  clear hs hS hra h1 h2 hfin hwf
  go_enter Try.func18, Try.ntmps18
  go_wp2
  first | go_end0 | go_ret
  exact ⟨rfl, ((Same.refl w).setCell _ _).setCell _ _, HF.out⟩


end Go.Proofs.Ytogmkbhbmmgidaa
