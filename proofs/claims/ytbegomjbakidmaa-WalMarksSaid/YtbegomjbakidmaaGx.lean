import Derived.Test.YtbegomjbakidmaaGe
import Derived.Test.YtbegomjbakidmaaSd
import Derived.Test.YtbegomjbakidmaaGp
import Derived.Test.YtbegomjbakidmaaGu
import Derived.Test.YtbegomjbakidmaaRc
import Derived.Test.YtbegomjbakidmaaSy
/- wal.Mark, wal.Marked. -/
namespace Go.Proofs.Ytbegomjbakidmaa
open Go.RowKit Go.Sl Go.ChangeMaps

/-- Where a mark goes, and what is written there. -/
def markP (S : ShelfM) (d : Int) (n : Nat) : PlaceM := ⟨d, 1, S.cfg.log - 1 - ((n % 3 : Nat) : Int)⟩
def markM (S : ShelfM) (d : Int) (n : Nat) : ShelfM × Int := S.write (markP S d n) (sealL (markP S d n) ⟨(n : Int), 0⟩ [])
theorem cfg_mk {w : World} {B : Nat} {c : CfgM} {F : HProp} (h : Sat w (pts B (.cells (cfgA c) TCfg (0, 0)) * F)) : w.cell? ⟨B, 0, none⟩ = some (.int .i64 c.disks) ∧ w.cell? ⟨B, 1, none⟩ = some (.int .i64 c.racks) ∧ w.cell? ⟨B, 2, none⟩ = some (.int .i64 c.rows) ∧ w.cell? ⟨B, 3, none⟩ = some (.int .i64 c.spare) ∧ w.cell? ⟨B, 4, none⟩ = some (.int .i64 c.log) ∧ w.cell? ⟨B, 5, none⟩ = some (.int .i64 c.image) ∧ B < w.heap.size := by
  have h1 := cells_at h.block
  exact ⟨h1 0, h1 1, h1 2, h1 3, h1 4, h1 5, h.lt⟩
theorem mk_pl {w : World} {B : Nat} {x y z : Int} {X : HProp} (h : Sat w (pts B (.cells #[.int .i64 x, .int .i64 y, .int .i64 z] TPl (0, 0)) * X)) : w.cell? ⟨B, 0, none⟩ = some (.int .i64 x) ∧ w.cell? ⟨B, 1, none⟩ = some (.int .i64 y) ∧ w.cell? ⟨B, 2, none⟩ = some (.int .i64 z) ∧ B < w.heap.size := by
  have h1 := cells_at h.block
  exact ⟨h1 0, h1 1, h1 2, h.lt⟩
set_option maxHeartbeats 1000000 in
set_option maxRecDepth 20000 in
theorem mark_any (p : Nat) (S : ShelfM) (F : HProp) (d : Int) (n : Nat) (hd : 0 ≤ d ∧ d < S.cfg.disks) (hl : 3 ≤ S.cfg.log) (hn : 1 ≤ n ∧ n < 4294967296) (w : World) (hS : Sat w (shelfAt SH p S * F)) :
    Calls Try.prog 23 #[.pointer (some ⟨p, 0, none⟩), .int .i64 d, .int .i64 (n : Int)] w fun e w' => e = .returned (.int .i64 (markM S d n).2) ∧ Hid (Same w w' ∧ Sat w' (shelfAt SH p (markM S d n).1 * F)) := by
  have hwf := (shelfAt_wf hS).cfg
  have h1 := hwf.disks
  have h2 := hwf.log
  have hm3 : n % 3 < 3 := Nat.mod_lt _ (by decide)
  have hok : sealOK (markP S d n) ⟨(n : Int), 0⟩ [] = true := by
    unfold sealOK markP
    simp only [Bool.and_eq_true, decide_eq_true_eq]
    refine ⟨⟨placeOK_iff.2 ⟨hd.1, by simp only; omega, by simp, by simp, by simp only; omega, by simp only; omega⟩, genOK_iff.2 ⟨by simp, by simp, by simp only; omega, by simp, fun h => by have := congrArg GenM.epoch h; simp [g0] at this; omega⟩⟩, by simp⟩
  have HSE := Lib.hid (show ∀ W X, Sat W X → Calls Try.prog 33 #[.agg (plA (markP S d n)), .agg (genA ⟨(n : Int), 0⟩), .string (strB [])] W fun e w' => e = .returned (.tuple #[.string (strB (sealL (markP S d n) ⟨(n : Int), 0⟩ [])), .int .i64 0]) ∧ Hid (Same W w' ∧ Sat w' X) from fun W X h => seal_any _ _ [] hok X W h)
  unfold markM
  generalize sealL (markP S d n) ⟨(n : Int), 0⟩ [] = sec at HSE ⊢
  obtain ⟨⟨S2, k⟩, hsk⟩ : ∃ x, S.write (markP S d n) sec = x := ⟨_, rfl⟩
  rw [hsk]
  have HWR := Lib.hid (show ∀ W X Y, Sat W (X * (Y * (shelfAt SH p S * F))) → Calls Try.prog 34 #[.pointer (some ⟨p, 0, none⟩), .agg (plA (markP S d n)), .string (strB sec)] W fun e w' => e = .returned (.int .i64 k) ∧ Hid (Same W w' ∧ Sat w' (X * (Y * (shelfAt SH p S2 * F)))) from fun W X Y h => by
    have h2 := swrite_any p S (X * (Y * F)) (markP S d n) sec W (h.perm (by ac_rfl))
    rw [hsk] at h2
    exact h2.mono fun e w' h' => ⟨h'.1, h'.2.out.1, h'.2.out.2.perm (by ac_rfl)⟩)
  have HCF := Lib.hid (config_any p S F w hS)
  have HS := Lib.hid hS
  unfold markP at HSE HWR
  have hmi : (n : Int) % 3 = ((n % 3 : Nat) : Int) := by omega
  generalize n % 3 = m at hmi hm3 HSE HWR
  have hmi3 : (m : Int) < 3 := by omega
  have d1 : decide (d < 0) = false := decide_eq_false (by omega)
  have d2 : decide (S.cfg.disks ≤ d) = false := decide_eq_false (by omega)
  have d3 : decide ((n : Int) < 1) = false := decide_eq_false (by omega)
  have d4 : decide ((4294967296 : Int) ≤ (n : Int)) = false := decide_eq_false (by omega)
  have d5 : decide (S.cfg.log < 3) = false := decide_eq_false (by omega)
  have hn2 : (n : Int) < 4294967296 := by omega
  generalize hc : S.cfg = c at *
  have h3 : c.log ≤ 65536 := h2.2
  clear hS hwf hok hsk h1 h2 hd hn hc
  go_enter Try.func23, Try.ntmps23
  go_upto_region 2 with (go_at_call 31; refine HCF.out.mono ?_; rintro e w1 ⟨rfl, hb⟩)
  have H1 := Lib.hid (And.intro (((Same.refl w).below hb).alloc (.cells (cfgA c) TCfg)) ((HS.out.below hb).alloc (.cells (cfgA c) TCfg)))
  clear hb
  generalize w1.alloc (.cells (cfgA c) TCfg) = w2 at H1 ⊢
  generalize w1.heap.size = B at H1 ⊢
  obtain ⟨c0, c1, c2, c3, c4, c5, lb⟩ := cfg_mk H1.out.2
  go_upto_region 5 with (fail)
  have H2 := Lib.hid (And.intro (H1.out.1.alloc (.cells (plA ⟨d, 1, c.log - 1 - (m : Int)⟩) TPl)) (H1.out.2.alloc (.cells (plA ⟨d, 1, c.log - 1 - (m : Int)⟩) TPl)))
  clear c0 c1 c2 c3 c4 c5 lb H1
  generalize w2.alloc (.cells (plA ⟨d, 1, c.log - 1 - (m : Int)⟩) TPl) = w3 at H2 ⊢
  generalize w2.heap.size = C at H2 ⊢
  obtain ⟨b0, b1, b2, lb⟩ := mk_pl H2.out.2
  go_wp2_with (first
    | (go_at_call 33; refine (HSE.out _ _ H2.out.2).mono ?_; rintro e w4 ⟨rfl, h4⟩; replace H2 := Lib.hid (And.intro (H2.out.1.trans h4.out.1) h4.out.2); clear h4 b0 b1 b2 lb; obtain ⟨b0, b1, b2, lb⟩ := mk_pl H2.out.2)
    | (go_at_call 34; refine (HWR.out _ _ _ H2.out.2).mono ?_; rintro e w5 ⟨rfl, h5⟩; replace H2 := Lib.hid (And.intro (H2.out.1.trans h5.out.1) h5.out.2); clear h5 b0 b1 b2 lb))
  go_ret
  exact ⟨rfl, H2.out.1, H2.out.2.right.right⟩
set_option maxHeartbeats 1000000 in
theorem mark_bad (p : Nat) (S : ShelfM) (F : HProp) (w : World) (hS : Sat w (shelfAt SH p S * F)) :
    Calls Try.prog 23 #[.pointer (some ⟨p, 0, none⟩), .int .i64 0, .int .i64 0] w fun e w' => e = .returned (.int .i64 1) ∧ Hid (Same w w' ∧ Sat w' (shelfAt SH p S * F)) := by
  have hwf := (shelfAt_wf hS).cfg
  have h1 := hwf.disks
  have HCF := Lib.hid (config_any p S F w hS)
  have HS := Lib.hid hS
  generalize hc : S.cfg = c at *
  have d2 : decide (c.disks ≤ 0) = false := decide_eq_false (by omega)
  clear hS hwf h1 hc
  go_enter Try.func23, Try.ntmps23
  go_upto_region 2 with (go_at_call 31; refine HCF.out.mono ?_; rintro e w1 ⟨rfl, hb⟩)
  have H1 := Lib.hid (And.intro (((Same.refl w).below hb).alloc (.cells (cfgA c) TCfg)) ((HS.out.below hb).alloc (.cells (cfgA c) TCfg)))
  clear hb
  generalize w1.alloc (.cells (cfgA c) TCfg) = w2 at H1 ⊢
  generalize w1.heap.size = B at H1 ⊢
  obtain ⟨c0, c1, c2, c3, c4, c5, lb⟩ := cfg_mk H1.out.2
  go_wp2
  go_ret
  exact ⟨rfl, H1.out.1, H1.out.2.right⟩
/-! ### Marked -/
def mstep (f : Nat → List UInt8) (d : Int) (s : Int × Int) (i : Nat) : Int × Int := match openM ⟨d, 1, (i : Int)⟩ (f i) with
  | none => s
  | some x => (max s.1 x.1.epoch, if x.1.epoch % 2 = 1 then max s.2 x.1.epoch else s.2)
def markedM (f : Nat → List UInt8) (d : Int) (a k : Nat) : Int × Int := (List.range' a k).foldl (mstep f d) (0, 0)
theorem markedM_succ (f : Nat → List UInt8) (d : Int) (a k : Nat) : markedM f d a (k + 1) = mstep f d (markedM f d a k) (a + k) := by
  unfold markedM
  rw [List.range'_concat, List.foldl_append, Nat.one_mul]
  rfl
structure MkSt (w : World) (E : HProp) (f : Nat → List UInt8) (d : Int) (a : Nat) (l o i : Value) (wr : World) : Prop where
  st : ∃ k : Nat, k ≤ 3 ∧ i = .int .i64 ((a : Int) + (k : Int)) ∧ l = .int .i64 (markedM f d a k).1 ∧ o = .int .i64 (markedM f d a k).2 ∧ Same w wr ∧ Sat wr E
def posOf (v : Value) : Nat := match v with | .int _ n => n.toNat | _ => 0
theorem mstep_gen {f : Nat → List UInt8} {d : Int} {i : Nat} {g : GenM} {p : List UInt8} (h : openM ⟨d, 1, (i : Int)⟩ (f i) = some (g, p)) : 0 ≤ g.epoch ∧ g.epoch < 4294967296 := by
  unfold openM at h
  split at h
  · next hc =>
    have h2 := hc.2.2.1
    unfold labelOK at h2
    simp only [Bool.and_eq_true] at h2
    obtain ⟨h3, h4, h5, h6, _⟩ := genOK_iff.1 h2.1.2
    cases h
    exact ⟨h3, h5⟩
  · cases h
set_option maxHeartbeats 2000000 in
set_option maxRecDepth 20000 in
theorem marked_any (p : Nat) (S : ShelfM) (F : HProp) (d : Int) (a : Nat) (f : Nat → List UInt8) (hd : 0 ≤ d ∧ d < S.cfg.disks) (hl : S.cfg.log = (a : Int) + 3) (hr : ReadsL S d (a + 3) f) (hlen : ∀ j, j < a + 3 → (f j).length = 64) (w : World) (hS : Sat w (shelfAt SH p S * F)) :
    Calls Try.prog 24 #[.pointer (some ⟨p, 0, none⟩), .int .i64 d] w fun e w' => e = .returned (.tuple #[.int .i64 (markedM f d a 3).1, .int .i64 (markedM f d a 3).2, .int .i64 0]) ∧ Hid (Same w w' ∧ Sat w' (shelfAt SH p S * F)) := by
  have hwf := (shelfAt_wf hS).cfg
  have h1 := hwf.disks
  have h2 := hwf.log
  have ha : a ≤ 65533 := by omega
  have hlg : logN S.cfg = (a : Int) := by unfold logN; omega
  have hws := fun W => wsectors_any S.cfg h2.2 (by omega) W
  rw [hlg] at hws
  have HWS := Lib.hid hws
  have HCF := Lib.hid (config_any p S F w hS)
  have HS := Lib.hid hS
  have HR := Lib.hid (show ∀ (k : Nat) W X Y, k < 3 → Sat W (X * (Y * (shelfAt SH p S * F))) → Calls Try.prog 47 #[.pointer (some ⟨p, 0, none⟩), .agg (plA ⟨d, 1, (a : Int) + (k : Int)⟩)] W fun e w' => e = .returned (.tuple #[.string (strB (f (a + k))), .int .i64 0]) ∧ Hid (Same W w' ∧ Sat w' (X * (Y * (shelfAt SH p S * F)))) from fun k W X Y hk h => by
    refine (sread_any p S (X * (Y * F)) ⟨d, 1, (a : Int) + (k : Int)⟩ W (h.perm (by ac_rfl))).mono fun e w' h' => ?_
    unfold ReadOut at h'
    have e2 := hr (a + k) (by omega)
    rw [Int.natCast_add] at e2
    rw [e2] at h'
    exact ⟨h'.1, h'.2.1, h'.2.2.perm (by ac_rfl)⟩)
  have HO := Lib.hid (show ∀ (k : Nat) W X, k < 3 → Sat W X → Calls Try.prog 48 #[.agg (plA ⟨d, 1, (a : Int) + (k : Int)⟩), .string (strB (f (a + k)))] W fun e w' => ∃ j : Int, (j = 0 ↔ (openM ⟨d, 1, ((a + k : Nat) : Int)⟩ (f (a + k))).isSome = true) ∧ e = .returned (.tuple #[.agg (openA (openM ⟨d, 1, ((a + k : Nat) : Int)⟩ (f (a + k)))).1, .string (strB (openA (openM ⟨d, 1, ((a + k : Nat) : Int)⟩ (f (a + k)))).2), .int .i64 j]) ∧ Hid (Same W w' ∧ Sat w' X) from fun k W X hk h => by
    rw [Int.natCast_add]
    exact open_any ⟨d, 1, (a : Int) + (k : Int)⟩ (f (a + k)) (placeOK_iff.2 ⟨hd.1, by simp only; omega, by simp, by simp, by simp only; omega, by simp only; omega⟩) (hlen _ (by omega)) X W h)
  have d1 : decide (d < 0) = false := decide_eq_false (by omega)
  have d2 : decide (S.cfg.disks ≤ d) = false := decide_eq_false (by omega)
  have d5 : decide ((3 : Int) ≤ (a : Int) + 3) = true := decide_eq_true (by omega)
  have hcf : cfgA S.cfg = #[.int .i64 S.cfg.disks, .int .i64 S.cfg.racks, .int .i64 S.cfg.rows, .int .i64 S.cfg.spare, .int .i64 ((a : Int) + 3), .int .i64 S.cfg.image] := by unfold cfgA; rw [hl]
  have HCA := Lib.hid hcf
  obtain ⟨c, hc⟩ : ∃ c, S.cfg = c := ⟨_, rfl⟩
  rw [hc] at hl hws HWS HCF d2 HCA
  have HLG := Lib.hid hl
  clear hl
  clear hS hwf h1 h2 hd hr hlen hlg hws hcf hc
  go_enter Try.func24, Try.ntmps24
  go_upto_region 2 with (go_at_call 31; refine HCF.out.mono ?_; rintro e w1 ⟨rfl, hb⟩)
  have H1 := Lib.hid (And.intro (((Same.refl w).below hb).alloc (.cells (cfgA c) TCfg)) ((HS.out.below hb).alloc (.cells (cfgA c) TCfg)))
  clear hb
  generalize w1.alloc (.cells (cfgA c) TCfg) = w2 at H1 ⊢
  generalize w1.heap.size = B at H1 ⊢
  obtain ⟨c0, c1, c2, c3, c4, c5, lb⟩ := cfg_mk H1.out.2
  rw [HLG.out] at c4
  go_wp2_with (go_at_call 30; rw [← HCA.out]; refine (HWS.out _).mono ?_; rintro e w3 ⟨rfl, hb⟩; replace H1 := Lib.hid (And.intro (H1.out.1.below hb) (H1.out.2.below hb)); clear hb c0 c1 c2 c3 c4 c5 lb)
  obtain ⟨E, hE⟩ : ∃ E, E = pts B (.cells (cfgA c) TCfg (0, 0)) * (shelfAt SH p S * F) := ⟨_, rfl⟩
  have HST := Lib.hid (show MkSt w E f d a (.int .i64 0) (.int .i64 0) (.int .i64 (a : Int)) w3 from ⟨⟨0, by omega, by simp, rfl, rfl, H1.out.1, by rw [hE]; exact H1.out.2⟩⟩)
  have HE := Lib.hid hE
  clear H1 hE
  go_loopw [4, 5, 8] (fun l o i wr => MkSt w E f d a l o i wr) (fun _ _ i _ => a + 3 - posOf i)
  case atStart => exact HST.out
  case round =>
    obtain ⟨k, hk, rfl, rfl, rfl, hsm, hs⟩ := hrel.st
    have H1 := Lib.hid (And.intro hsm (show Sat wr (pts B (.cells (cfgA c) TCfg (0, 0)) * (shelfAt SH p S * F)) from by rw [← HE.out]; exact hs))
    clear hrel HST hsm hs
    obtain ⟨c0, c1, c2, c3, c4, c5, lb⟩ := cfg_mk H1.out.2
    rw [show c.log = (a : Int) + 3 from HLG.out] at c4
    have hM := markedM_succ f d a k
    by_cases hlt : k < 3
    · have hltd : decide ((a : Int) + (k : Int) < (a : Int) + 3) = true := decide_eq_true (by omega)
      have hki : (k : Int) < 3 := by omega
      have hai : (a : Int) ≤ 65533 := by omega
      have HRK := Lib.hid (fun W X Y h => HR.out k W X Y hlt h)
      have hok := fun W X h => HO.out k W X hlt h
      have H2 := Lib.hid (And.intro (H1.out.1.alloc (.cells (plA ⟨d, 1, (a : Int) + (k : Int)⟩) TPl)) (H1.out.2.alloc (.cells (plA ⟨d, 1, (a : Int) + (k : Int)⟩) TPl)))
      obtain ⟨⟨l0, o0⟩, hlo⟩ : ∃ x, markedM f d a k = x := ⟨_, rfl⟩
      rw [hlo] at hM ⊢
      unfold mstep at hM
      simp only
      cases hop : openM ⟨d, 1, ((a + k : Nat) : Int)⟩ (f (a + k)) with
      | none =>
        rw [hop] at hok hM
        have HOK := Lib.hid (show ∀ W X, Sat W X → Calls Try.prog 48 #[.agg (plA ⟨d, 1, (a : Int) + (k : Int)⟩), .string (strB (f (a + k)))] W fun e w' => ∃ j : Int, (j != 0) = true ∧ e = .returned (.tuple #[.agg #[.int .i64 0, .int .i64 0], .string (strB []), .int .i64 j]) ∧ Hid (Same W w' ∧ Sat w' X) from fun W X h => (hok W X h).mono fun e w' ⟨j, hj, he, hs⟩ => ⟨j, by simpa using hj, he, hs⟩)
        have HM := Lib.hid hM
        clear hM hok hop hlo
        go_wp2_with (first
          | (go_at_call 47; refine (HRK.out _ _ _ H2.out.2).mono ?_; rintro e w5 ⟨rfl, h5⟩; replace H2 := Lib.hid (And.intro (H2.out.1.trans h5.out.1) h5.out.2); clear h5; obtain ⟨b0, b1, b2, lb2⟩ := mk_pl H2.out.2)
          | (go_at_call 48; refine (HOK.out _ _ H2.out.2).mono ?_; rintro e w6 ⟨j, hj, rfl, h6⟩; replace H2 := Lib.hid (And.intro (H2.out.1.trans h6.out.1) h6.out.2); clear h6))
        refine ⟨⟨⟨k + 1, by omega, by rw [Int.natCast_add, Int.add_assoc]; rfl, by rw [HM.out], by rw [HM.out], H2.out.1.alloc _, ?_⟩⟩, by simp only [posOf]; omega⟩
        rw [HE.out]
        exact (H2.out.2.allocKeep _).right
      | some x =>
        obtain ⟨⟨gx, gy⟩, q⟩ := x
        obtain ⟨g0', g1'⟩ := mstep_gen hop
        simp only at g0' g1'
        rw [hop] at hok hM
        simp only at hM
        have HOK := Lib.hid (show ∀ W X, Sat W X → Calls Try.prog 48 #[.agg (plA ⟨d, 1, (a : Int) + (k : Int)⟩), .string (strB (f (a + k)))] W fun e w' => e = .returned (.tuple #[.agg #[.int .i64 gx, .int .i64 gy], .string (strB q), .int .i64 0]) ∧ Hid (Same W w' ∧ Sat w' X) from fun W X h => (hok W X h).mono fun e w' ⟨j, hj, he, hs⟩ => by
          have h0 : j = 0 := by simpa using hj
          subst h0
          exact ⟨he, hs⟩)
        clear hok hop hlo
        by_cases hpar : gx % 2 = 1
        · have hp1 : (gx % 2 == 1) = true := by simp [hpar]
          rw [if_pos hpar] at hM
          have HM := Lib.hid hM
          clear hM hpar
          go_wp2_with (first
            | (go_at_call 47; refine (HRK.out _ _ _ H2.out.2).mono ?_; rintro e w5 ⟨rfl, h5⟩; replace H2 := Lib.hid (And.intro (H2.out.1.trans h5.out.1) h5.out.2); clear h5; obtain ⟨b0, b1, b2, lb2⟩ := mk_pl H2.out.2)
            | (go_at_call 48; refine (HOK.out _ _ H2.out.2).mono ?_; rintro e w6 ⟨rfl, h6⟩; replace H2 := Lib.hid (And.intro (H2.out.1.trans h6.out.1) h6.out.2); clear h6))
          refine ⟨⟨⟨k + 1, by omega, by rw [Int.natCast_add, Int.add_assoc]; rfl, by rw [HM.out], by rw [HM.out], H2.out.1.alloc _, ?_⟩⟩, by simp only [posOf]; omega⟩
          rw [HE.out]
          exact (H2.out.2.allocKeep _).right
        · have hp1 : (gx % 2 == 1) = false := by simp [hpar]
          rw [if_neg hpar] at hM
          have HM := Lib.hid hM
          clear hM hpar
          go_wp2_with (first
            | (go_at_call 47; refine (HRK.out _ _ _ H2.out.2).mono ?_; rintro e w5 ⟨rfl, h5⟩; replace H2 := Lib.hid (And.intro (H2.out.1.trans h5.out.1) h5.out.2); clear h5; obtain ⟨b0, b1, b2, lb2⟩ := mk_pl H2.out.2)
            | (go_at_call 48; refine (HOK.out _ _ H2.out.2).mono ?_; rintro e w6 ⟨rfl, h6⟩; replace H2 := Lib.hid (And.intro (H2.out.1.trans h6.out.1) h6.out.2); clear h6))
          refine ⟨⟨⟨k + 1, by omega, by rw [Int.natCast_add, Int.add_assoc]; rfl, by rw [HM.out], by rw [HM.out], H2.out.1.alloc _, ?_⟩⟩, by simp only [posOf]; omega⟩
          rw [HE.out]
          exact (H2.out.2.allocKeep _).right
    · obtain rfl : k = 3 := by omega
      have hltd : decide ((a : Int) + ((3 : Nat) : Int) < (a : Int) + 3) = false := by simp
      go_wp2
      refine bodyPost_ret (v := .tuple #[.int .i64 (markedM f d a 3).1, .int .i64 (markedM f d a 3).2, .int .i64 0]) (results3 Try.results24 (.tmp rfl) (.tmp rfl) (.tmp rfl)) rfl ?_
      exact ⟨rfl, H1.out.1, H1.out.2.right⟩
end Go.Proofs.Ytbegomjbakidmaa

/- Plain facts behind the law's examples; scans and marks of a shelf that is in order. -/
namespace Go.Proofs.Ytbegomjbakidmaa
open Go.RowKit Go.Sl Go.ChangeMaps

theorem con_len {p : Nat} {S : ShelfM} {F : HProp} {w : World} (h : Sat w (shelfAt SH p S * F)) {d : Int} (hd : S.state d = 1) {j : Nat} (hj : (j : Int) < S.cfg.log) : (conL S d j).length = 64 := by
  have hwf := shelfAt_wf h
  obtain ⟨h0, h1⟩ := ShelfM.state_in hwf (d := d) (by omega)
  obtain ⟨k, rfl⟩ := Int.eq_ofNat_of_zero_le h0
  obtain ⟨g, cap, q, vi, G, hs, _⟩ := shelf_bay h (d := k) (by omega)
  obtain ⟨_, _, _, _, _, _, _, _, _, ⟨hD, _⟩, _⟩ := diskAt_iff.1 hs.right
  exact DiskM.content_length hD (log_has hwf hd hj)
/-- A scan of a shelf in order. -/
theorem scan_fine {p : Nat} {c : CfgM} {S : ShelfM} {F : HProp} {d : Int} {N : Nat} (hf : FineS c S) (hN : (N : Int) = logN c) (hl : 3 ≤ c.log) (hd : 0 ≤ d ∧ d < c.disks) {t : TailM} (ht : tailV t = true) {l : List (List UInt8)} {t' : TailM} (hsc : ScanL (conL S d) N d t l t') (hll : l.length ≤ 100000) {w : World} (hS : Sat w (shelfAt SH p S * F)) :
    Calls Try.prog 12 #[.pointer (some ⟨p, 0, none⟩), .int .i64 d, .agg (tailA t)] w fun e w' => ∃ v, e = .returned (.tuple #[v, .agg (tailA t'), .int .i64 0]) ∧ Hid (Same w w' ∧ Sat w' (ownS v l * (shelfAt SH p S * F))) := by
  have hNl : (N : Int) ≤ c.log := by rw [hN]; unfold logN; omega
  refine scan_any p S F d N (conL S d) (by rw [hf.cfg]; exact hN) (by rw [hf.cfg]; exact hd) (hf.reads hd.1 hd.2 hNl) (fun j hj => con_len hS (hf.st d hd.1 hd.2) (by rw [hf.cfg]; omega)) t ht l t' hsc hll w hS
theorem marked_fine {p : Nat} {c : CfgM} {S : ShelfM} {F : HProp} {d : Int} {a : Nat} (hf : FineS c S) (hl : c.log = (a : Int) + 3) (hd : 0 ≤ d ∧ d < c.disks) {w : World} (hS : Sat w (shelfAt SH p S * F)) :
    Calls Try.prog 24 #[.pointer (some ⟨p, 0, none⟩), .int .i64 d] w fun e w' => e = .returned (.tuple #[.int .i64 (markedM (conL S d) d a 3).1, .int .i64 (markedM (conL S d) d a 3).2, .int .i64 0]) ∧ Hid (Same w w' ∧ Sat w' (shelfAt SH p S * F)) :=
  marked_any p S F d a (conL S d) (by rw [hf.cfg]; exact hd) (by rw [hf.cfg]; exact hl) (hf.reads hd.1 hd.2 (by rw [hl]; omega)) (fun j hj => con_len hS (hf.st d hd.1 hd.2) (by rw [hf.cfg, hl]; omega)) w hS
theorem mark_fine {c : CfgM} {S : ShelfM} (h : FineS c S) {d : Int} (h0 : 0 ≤ d) (h1 : d < c.disks) (hl : 3 ≤ c.log) (n : Nat) :
    (markM S d n).2 = 0 ∧ FineS c (markM S d n).1 ∧ ∀ (e : Int) (j : Nat), conL (markM S d n).1 e j = if e = d ∧ (j : Int) = c.log - 1 - ((n % 3 : Nat) : Int) then sealL ⟨d, 1, (j : Int)⟩ ⟨(n : Int), 0⟩ [] else conL S e j := by
  have hm : n % 3 < 3 := Nat.mod_lt _ (by decide)
  obtain ⟨i, hi⟩ := Int.eq_ofNat_of_zero_le (show 0 ≤ c.log - 1 - ((n % 3 : Nat) : Int) by omega)
  have hp : markP S d n = ⟨d, 1, (i : Int)⟩ := by unfold markP; rw [h.cfg, hi]
  have hsl : (sealL ⟨d, 1, (i : Int)⟩ ⟨(n : Int), 0⟩ []).length = 64 := sealL_length (by simp)
  obtain ⟨a1, a2, a3⟩ := h.write h0 h1 (i := i) (by omega) hsl
  unfold markM
  rw [hp]
  refine ⟨a1, a2, fun e j => ?_⟩
  rw [a3]
  by_cases hj : e = d ∧ j = i
  · obtain ⟨rfl, rfl⟩ := hj
    rw [if_pos ⟨rfl, rfl⟩, if_pos ⟨rfl, hi.symm⟩]
  · rw [if_neg hj, if_neg (by rintro ⟨e1, e2⟩; exact hj ⟨e1, by omega⟩)]
theorem inv_app2 {size : Int} {S : ShelfM} {rs : List (List UInt8)} (h : InvK size S rs) (h1 : 1 ≤ size) (h2 : size ≤ 40) (hl : rs.length ≤ 999) {r : List UInt8} (hz : appErr (cfgW size) 0 (tailK rs rs.length) ⟨1, (rs.length : Int) + 1⟩ r = 0) :
    ∃ S', appM S 0 (tailK rs rs.length) ⟨1, (rs.length : Int) + 1⟩ r = (S', tailK (rs ++ [r]) (rs.length + 1), 0) ∧ InvK size S' (rs ++ [r]) ∧ ∀ j : Nat, size ≤ (j : Int) → conL S' 0 j = conL S 0 j := by
  obtain ⟨S', e1, e2⟩ := inv_app h h1 h2 hl hz
  obtain ⟨S'', f1, f2, f3, f4⟩ := appM_fine h.fine hz
  rw [e1] at f1
  have : S' = S'' := congrArg Prod.fst f1
  subst this
  refine ⟨S', e1, e2, fun j hj => ?_⟩
  obtain ⟨_, _, _, hfit⟩ := appErr_none hz
  rw [cfgW_logN h1] at hfit
  rw [f3]
  unfold appF
  rw [if_neg (by omega)]
def rA : List UInt8 := [97, 98]
theorem tails_san : tailK [] 0 = t0 ∧ tailK [rA] 1 = ⟨1, 1, ⟨1, 1⟩⟩ ∧ tailK [rA, textL 27] 2 = ⟨3, 2, ⟨1, 2⟩⟩ := by
  refine ⟨?_, ?_, ?_⟩ <;> simp [tailK, sumN, genK, t0, sizeM, rA, textL_length] <;> decide
/-- The examples. -/
theorem san : ∃ S1 S2 S3 S4 S5 : ShelfM, appM (ShelfM.new (cfgW 8)) 0 t0 ⟨1, 1⟩ rA = (S1, ⟨1, 1, ⟨1, 1⟩⟩, 0) ∧ appM S1 0 ⟨1, 1, ⟨1, 1⟩⟩ ⟨1, 2⟩ (textL 27) = (S2, ⟨3, 2, ⟨1, 2⟩⟩, 0) ∧ FineS (cfgW 8) S2 ∧ ScanL (conL S2 0) 8 0 t0 [rA, textL 27] ⟨3, 2, ⟨1, 2⟩⟩ ∧
    appM S2 0 ⟨3, 2, ⟨1, 2⟩⟩ ⟨1, 2⟩ [99] = (S2, noTail, 9) ∧ appM S2 0 ⟨3, 2, ⟨1, 2⟩⟩ ⟨1, 3⟩ (textL 131) = (S2, noTail, 16) ∧ markedM (conL S2 0) 0 8 3 = (0, 0) ∧
    markM S2 0 4 = (S3, 0) ∧ markM S3 0 5 = (S4, 0) ∧ markM S4 0 6 = (S5, 0) ∧ FineS (cfgW 8) S3 ∧ FineS (cfgW 8) S4 ∧ FineS (cfgW 8) S5 ∧ markedM (conL S5 0) 0 8 3 = (6, 5) := by
  obtain ⟨q0, q1, q2⟩ := tails_san
  have i0 := inv_new (size := 8) (by omega) (by omega)
  have z0 : appErr (cfgW 8) 0 (tailK [] 0) ⟨1, ((0 : Nat) : Int) + 1⟩ rA = 0 := by rw [q0]; exact appErr_of ⟨by decide, by decide, by decide, by decide⟩ (by decide) (by decide) (by decide)
  obtain ⟨S1, a1, i1, g1⟩ := inv_app2 i0 (by omega) (by omega) (by simp) z0
  have z1 : appErr (cfgW 8) 0 (tailK [rA] 1) ⟨1, ((1 : Nat) : Int) + 1⟩ (textL 27) = 0 := by
    rw [q1]
    refine appErr_of ⟨by decide, by decide, by decide, by decide⟩ (by decide) (by rw [textL_length]; decide) ?_
    rw [recN_val, textL_length]; decide
  obtain ⟨S2, a2, i2, g2⟩ := inv_app2 (rs := [rA]) i1 (by omega) (by omega) (by simp) z1
  have hreg : ∀ j : Nat, 8 ≤ j → conL S2 0 j = zsec := fun j hj => by
    rw [g2 j (by omega), g1 j (by omega), (new_fine (ok_wf (cfgW_ok (size := 8) (by omega) (by omega)) (by rw [cfgW_sectors]; omega))).2 0 (by omega) (by decide)]
  obtain ⟨m1, f3, k3⟩ := mark_fine i2.fine (d := 0) (by omega) (by decide) (by decide) 4
  obtain ⟨m2, f4, k4⟩ := mark_fine f3 (d := 0) (by omega) (by decide) (by decide) 5
  obtain ⟨m3, f5, k5⟩ := mark_fine f4 (d := 0) (by omega) (by decide) (by decide) 6
  have hsc := i2.scan (k := 0) (by omega) (by omega) (by simp) (by simp)
  rw [tailK_zero] at hsc
  have hq2 : tailK ([rA] ++ [textL 27]) (([rA] : List (List UInt8)).length + 1) = ⟨3, 2, ⟨1, 2⟩⟩ := q2
  have hlog : (cfgW 8).log = 11 := rfl
  refine ⟨S1, S2, (markM S2 0 4).1, (markM (markM S2 0 4).1 0 5).1, (markM (markM (markM S2 0 4).1 0 5).1 0 6).1, ?_, ?_, i2.fine, ?_, ?_, ?_, ?_, Prod.ext rfl m1, Prod.ext rfl m2, Prod.ext rfl m3, f3, f4, f5, ?_⟩
  · have := a1
    rw [show ([] : List (List UInt8)).length = 0 from rfl, q0] at this
    rw [show tailK ([] ++ [rA]) (0 + 1) = ⟨1, 1, ⟨1, 1⟩⟩ from q1] at this
    exact this
  · have := a2
    rw [show ([rA] : List (List UInt8)).length = 1 from rfl, q1] at this
    rw [show tailK ([rA] ++ [textL 27]) (1 + 1) = ⟨3, 2, ⟨1, 2⟩⟩ from q2] at this
    exact this
  · have e : tailK ([rA] ++ [textL 27]) ([rA] ++ [textL 27]).length = ⟨3, 2, ⟨1, 2⟩⟩ := q2
    rw [e] at hsc
    exact hsc
  · have hz : appErr (cfgW 8) 0 ⟨3, 2, ⟨1, 2⟩⟩ ⟨1, 2⟩ [99] = 9 := by decide
    rw [appM_err i2.fine.cfg (by rw [hz]; decide), hz]
  · have hz : appErr (cfgW 8) 0 ⟨3, 2, ⟨1, 2⟩⟩ ⟨1, 3⟩ (textL 131) = 16 := by
      unfold appErr
      rw [if_neg (by decide), if_neg (by decide), if_neg (by rw [textL_length]; decide), if_pos (by rw [recN_val, textL_length]; decide)]
    rw [appM_err i2.fine.cfg (by rw [hz]; decide), hz]
  · have h8 := hreg 8 (by omega); have h9 := hreg 9 (by omega); have h10 := hreg 10 (by omega)
    simp only [markedM, List.range', List.foldl, mstep, h8, h9, h10, zsec_open]
  · have hs : ∀ (j n : Nat), 8 ≤ j → j ≤ 10 → 1 ≤ n → n ≤ 6 → openM ⟨0, 1, (j : Int)⟩ (sealL ⟨0, 1, (j : Int)⟩ ⟨(n : Int), 0⟩ []) = some (⟨(n : Int), 0⟩, [] ++ zerosL 40) := fun j n h1 h2 h3 h4 => open_seal (by
      unfold sealOK
      simp only [Bool.and_eq_true, decide_eq_true_eq]
      refine ⟨⟨placeOK_iff.2 ⟨by simp, by simp, by simp, by simp, by simp only; omega, by simp only; omega⟩, genOK_iff.2 ⟨by simp only; omega, by simp, by simp only; omega, by simp, fun e => by have := congrArg GenM.epoch e; simp [g0] at this; omega⟩⟩, by simp⟩)
    have c8 : conL (markM (markM (markM S2 0 4).1 0 5).1 0 6).1 0 8 = sealL ⟨0, 1, ((8 : Nat) : Int)⟩ ⟨((5 : Nat) : Int), 0⟩ [] := by rw [k5, hlog, if_neg (by decide), k4, hlog, if_pos (by decide)]
    have c9 : conL (markM (markM (markM S2 0 4).1 0 5).1 0 6).1 0 9 = sealL ⟨0, 1, ((9 : Nat) : Int)⟩ ⟨((4 : Nat) : Int), 0⟩ [] := by rw [k5, hlog, if_neg (by decide), k4, hlog, if_neg (by decide), k3, hlog, if_pos (by decide)]
    have c10 : conL (markM (markM (markM S2 0 4).1 0 5).1 0 6).1 0 10 = sealL ⟨0, 1, ((10 : Nat) : Int)⟩ ⟨((6 : Nat) : Int), 0⟩ [] := by rw [k5, hlog, if_pos (by decide)]
    have o8 := hs 8 5 (by omega) (by omega) (by omega) (by omega)
    have o9 := hs 9 4 (by omega) (by omega) (by omega) (by omega)
    have o10 := hs 10 6 (by omega) (by omega) (by omega) (by omega)
    simp only [markedM, List.range', List.foldl, mstep, Nat.reduceAdd, c8, c9, c10, o8, o9, o10]
    decide
end Go.Proofs.Ytbegomjbakidmaa

/- solventlaw18.sanity. -/
namespace Go.Proofs.Ytbegomjbakidmaa
open Go.RowKit Go.Sl Go.ChangeMaps

theorem ownS_strs {w : World} {v : Value} {l : List (List UInt8)} {F : HProp} (h : Sat w (ownS v l * F)) : StrsAt w v (l.map strB) := by
  unfold ownS strsL at h
  have e : (l.map fun s => Value.string (strB s)) = (l.map strB).map Value.string := by simp
  rw [e] at h
  exact ownAt_strs h
theorem app_to {p : Nat} {S S' : ShelfM} {F : HProp} {d : Int} {t t' : TailM} {g : GenM} {r : List UInt8} {e : Int} (h : appM S d t g r = (S', t', e)) (hr : r.length ≤ 9223372036854775807) (X : HProp) (W : World) (hS : Sat W (X * (shelfAt SH p S * F))) :
    Calls Try.prog 15 #[.pointer (some ⟨p, 0, none⟩), .int .i64 d, .agg (tailA t), .agg (genA g), .string (strB r)] W fun e' w' => e' = .returned (.tuple #[.agg (tailA t'), .int .i64 e]) ∧ Hid (Same W w' ∧ Sat w' (X * (shelfAt SH p S' * F))) := by
  have h1 := append_any p S (X * F) d t g r hr W (hS.perm (by ac_rfl))
  rw [h] at h1
  exact h1.mono fun e w' h' => ⟨h'.1, h'.2.out.1, h'.2.out.2.perm (by ac_rfl)⟩
theorem mark_to {p : Nat} {S S' : ShelfM} {F : HProp} {c : CfgM} (hf : FineS c S) {d : Int} {n : Nat} (hd : 0 ≤ d ∧ d < c.disks) (hl : 3 ≤ c.log) (hn : 1 ≤ n ∧ n < 4294967296) {e : Int} (h : markM S d n = (S', e)) (X : HProp) (W : World) (hS : Sat W (X * (shelfAt SH p S * F))) :
    Calls Try.prog 23 #[.pointer (some ⟨p, 0, none⟩), .int .i64 d, .int .i64 (n : Int)] W fun e' w' => e' = .returned (.int .i64 e) ∧ Hid (Same W w' ∧ Sat w' (X * (shelfAt SH p S' * F))) := by
  have h1 := mark_any p S (X * F) d n (by rw [hf.cfg]; exact hd) (by rw [hf.cfg]; exact hl) hn W (hS.perm (by ac_rfl))
  rw [h] at h1
  exact h1.mono fun e w' h' => ⟨h'.1, h'.2.out.1, h'.2.out.2.perm (by ac_rfl)⟩
theorem marked_to {p : Nat} {S : ShelfM} {F : HProp} {c : CfgM} (hf : FineS c S) {d : Int} {a : Nat} (hl : c.log = (a : Int) + 3) (hd : 0 ≤ d ∧ d < c.disks) {x y : Int} (h : markedM (conL S d) d a 3 = (x, y)) (X : HProp) (W : World) (hS : Sat W (X * (shelfAt SH p S * F))) :
    Calls Try.prog 24 #[.pointer (some ⟨p, 0, none⟩), .int .i64 d] W fun e' w' => e' = .returned (.tuple #[.int .i64 x, .int .i64 y, .int .i64 0]) ∧ Hid (Same W w' ∧ Sat w' (X * (shelfAt SH p S * F))) := by
  have h1 := marked_fine (F := X * F) hf hl hd (hS.perm (by ac_rfl))
  rw [h] at h1
  exact h1.mono fun e w' h' => ⟨h'.1, h'.2.out.1, h'.2.out.2.perm (by ac_rfl)⟩
theorem san_cells {w : World} {A : Nat} {t : TailM} {X Y : HProp} (h : Sat w ((pts A (.cells (tailA t) TTail (0, 0)) * X) * Y)) : w.cell? ⟨A, 0, none⟩ = some (.int .i64 t.next) ∧ w.cell? ⟨A, 1, none⟩ = some (.int .i64 t.number) ∧ w.cell? ⟨A, 2, none⟩ = some (.int .i64 t.gen.epoch) ∧ w.cell? ⟨A, 3, none⟩ = some (.int .i64 t.gen.count) ∧ A < w.heap.size := by
  rw [star_assoc] at h
  exact tail_cells4 h
def e3B (D : Nat) (v : Value) (g A Z : Nat) : HProp := pts D (.cells (tailA ⟨3, 2, ⟨1, 2⟩⟩) TTail (0, 0)) * (ownS v [rA, textL 27] * (pts g (.cells (tailA ⟨3, 2, ⟨1, 2⟩⟩) TTail (0, 0)) * (pts A (.cells (tailA ⟨1, 1, ⟨1, 1⟩⟩) TTail (0, 0)) * pts Z (.cells (tailA ⟨0, 0, ⟨0, 0⟩⟩) TTail (0, 0)))))
theorem t4 {w : World} {B : Nat} {t : TailM} {X : HProp} (h : Sat w (pts B (.cells (tailA t) TTail (0, 0)) * X)) : w.cell? ⟨B, 0, none⟩ = some (.int .i64 t.next) ∧ w.cell? ⟨B, 1, none⟩ = some (.int .i64 t.number) ∧ w.cell? ⟨B, 2, none⟩ = some (.int .i64 t.gen.epoch) ∧ w.cell? ⟨B, 3, none⟩ = some (.int .i64 t.gen.count) ∧ B < w.heap.size := tail_cells4 h
def C4 (w : World) (B : Nat) (a b c d : Int) : Prop := w.cell? ⟨B, 0, none⟩ = some (.int .i64 a) ∧ w.cell? ⟨B, 1, none⟩ = some (.int .i64 b) ∧ w.cell? ⟨B, 2, none⟩ = some (.int .i64 c) ∧ w.cell? ⟨B, 3, none⟩ = some (.int .i64 d) ∧ B < w.heap.size
theorem e2_cells {w : World} {g A Z : Nat} {Y : HProp} (h : Sat w (pts g (.cells (tailA ⟨3, 2, ⟨1, 2⟩⟩) TTail (0, 0)) * ((pts A (.cells (tailA ⟨1, 1, ⟨1, 1⟩⟩) TTail (0, 0)) * pts Z (.cells (tailA ⟨0, 0, ⟨0, 0⟩⟩) TTail (0, 0))) * Y))) : C4 w g 3 2 1 2 ∧ C4 w A 1 1 1 1 ∧ C4 w Z 0 0 0 0 := by
  refine ⟨t4 h, ?_, ?_⟩
  · have h2 := h.right
    rw [star_assoc] at h2
    exact t4 h2
  · have h2 := h.right
    rw [star_assoc] at h2
    exact t4 h2.right
theorem e3_cells {w : World} {D g A Z : Nat} {v : Value} {Y : HProp} (h : Sat w (e3B D v g A Z * Y)) : C4 w D 3 2 1 2 ∧ C4 w g 3 2 1 2 ∧ C4 w A 1 1 1 1 ∧ C4 w Z 0 0 0 0 := by
  have h1 := h.left
  unfold e3B at h1
  refine ⟨t4 h1, t4 h1.right.right, t4 h1.right.right.right, ?_⟩
  have h2 := h1.right.right.right.right
  rw [← star_emp (pts _ _)] at h2
  exact t4 h2
theorem e3_strs {w : World} {D g A Z : Nat} {v : Value} {Y : HProp} (h : Sat w (e3B D v g A Z * Y)) : StrsAt w v [strB rA, strB (textL 27)] := by
  have h1 := h.left
  unfold e3B at h1
  exact ownS_strs h1.right
theorem pair_strs (w : World) (x y : ByteArray) : StrsAt (w.alloc (.cells #[.string x, .string y] TString)) (.slice (some ⟨w.heap.size, 0, none⟩) 2 2) [x, y] := by
  refine ⟨_, _, rfl, fun _ => ⟨w.heap.size, 0, rfl, fun j z hz => ?_⟩⟩
  rw [Nat.zero_add, Nat.mul_one, cells_at (heap_alloc_new w _)]
  match j, hz with
  | 0, hz => cases hz; rfl
  | 1, hz => cases hz; rfl
set_option maxHeartbeats 4000000 in
set_option maxRecDepth 100000 in
theorem sanity18_any (F : HProp) (w : World) (hF : Sat w F) : Calls Try.prog 10 #[] w fun e w' => e = .returned (.bool true) ∧ Hid (Same w w' ∧ Sat w' F) := by
  obtain ⟨S1, S2, S3, S4, S5, ha, hb, hf2, hsc, hst, hfu, hm0, hk4, hk5, hk6, hf3, hf4, hf5, hm5⟩ := san
  have HNEW := Lib.hid (show ∀ W, Sat W F → _ from fun W h => snew_ok (cfgW 8) F W h (cfgW_ok (by omega) (by omega)) (by rw [cfgW_sectors]; omega))
  have HCF := Lib.hid (fun W => config18_any 8 (by omega) (by omega) W)
  have HA := Lib.hid (And.intro ha (And.intro hb (And.intro hst (And.intro hfu (And.intro hm0 (And.intro hk4 (And.intro hk5 (And.intro hk6 (And.intro hm5 (And.intro hsc (And.intro hf2 (And.intro hf3 (And.intro hf4 hf5)))))))))))))
  have HF := Lib.hid hF
  have HTX := Lib.hid (fun (n : Nat) (h1 : 0 < n) (h2 : n ≤ 1000) (X : HProp) (W : World) (h : Sat W X) => text_any n h1 h2 X W h)
  clear ha hb hf2 hsc hst hfu hm0 hk4 hk5 hk6 hf3 hf4 hf5 hm5 hF
  go_enter Try.func10, Try.ntmps10
  go_upto_region 2 with (first
    | (go_at_call 19; refine (HCF.out _).mono ?_; rintro e w1 ⟨rfl, hb1⟩)
    | (go_at_call 18; refine (HNEW.out _ (HF.out.below hb1)).mono ?_; rintro e w2 ⟨p, rfl, h2⟩))
  have H1 := Lib.hid (And.intro (((Same.refl w).below hb1).trans h2.out.1) h2.out.2)
  clear h2 hb1
  go_upto_region 5 with (fail)
  replace H1 := Lib.hid (And.intro (H1.out.1.alloc (.cells (tailA ⟨0, 0, ⟨0, 0⟩⟩) TTail)) (H1.out.2.alloc (.cells (tailA ⟨0, 0, ⟨0, 0⟩⟩) TTail)))
  generalize w2.alloc (.cells (tailA ⟨0, 0, ⟨0, 0⟩⟩) TTail) = w3 at H1 ⊢
  generalize w2.heap.size = Z at H1 ⊢
  obtain ⟨z0, z1, z2, z3, lz⟩ := tail_cells4 H1.out.2
  have HAP1 := Lib.hid (fun (X : HProp) (W : World) (h : Sat W (X * (shelfAt SH p (ShelfM.new (cfgW 8)) * F))) => app_to HA.out.1 (by decide) X W h)
  have HAP2 := Lib.hid (fun (X : HProp) (W : World) (h : Sat W (X * (shelfAt SH p S1 * F))) => app_to HA.out.2.1 (by rw [textL_length]; decide) X W h)
  go_upto_region 6 with (go_at_call 15; refine (HAP1.out _ _ H1.out.2).mono ?_; rintro e w4 ⟨rfl, h4⟩; replace H1 := Lib.hid (And.intro (H1.out.1.trans h4.out.1) h4.out.2); clear h4 z0 z1 z2 z3 lz)
  replace H1 := Lib.hid (And.intro (H1.out.1.alloc (.cells (tailA ⟨1, 1, ⟨1, 1⟩⟩) TTail)).drew (show Sat _ ((pts w4.heap.size (.cells (tailA ⟨1, 1, ⟨1, 1⟩⟩) TTail (0, 0)) * pts Z (.cells (tailA ⟨0, 0, ⟨0, 0⟩⟩) TTail (0, 0))) * (shelfAt SH p S1 * F)) from ((H1.out.2.alloc (.cells (tailA ⟨1, 1, ⟨1, 1⟩⟩) TTail)).drew.perm (star_assoc _ _ _).symm)))
  generalize hw5 : (w4.alloc (.cells (tailA ⟨1, 1, ⟨1, 1⟩⟩) TTail)) = w5 at H1 ⊢
  generalize w4.heap.size = A at H1 ⊢
  have hS0 := (san_cells H1.out.2)
  replace hS0 := And.intro hS0.1 (And.intro hS0.2.1 (And.intro hS0.2.2.1 hS0.2.2.2.1))
  refine reg_begin (fun w' => w'.cell? ⟨A, 0, none⟩ = some (.int .i64 1) ∧ w'.cell? ⟨A, 1, none⟩ = some (.int .i64 1) ∧ w'.cell? ⟨A, 2, none⟩ = some (.int .i64 1) ∧ w'.cell? ⟨A, 3, none⟩ = some (.int .i64 1)) (by kernel_rfl) ?_
  generalize w5.drew = w5 at H1 hS0 ⊢
  apply reg_cutT (K := fun g w' => Hid (Same w w' ∧ Sat w' (pts g (.cells (tailA ⟨3, 2, ⟨1, 2⟩⟩) TTail (0, 0)) * ((pts A (.cells (tailA ⟨1, 1, ⟨1, 1⟩⟩) TTail (0, 0)) * pts Z (.cells (tailA ⟨0, 0, ⟨0, 0⟩⟩) TTail (0, 0))) * (shelfAt SH p S2 * F)))))
  · skip
    (apply reg_take 0 rfl rfl (by decide +kernel) rfl); (rintro w' ⟨h1, h2, h3, h4⟩; go_simp; rfl); exact hS0; simp only [List.setIfInBounds_toArray, List.set_cons_succ, List.set_cons_zero]
    (apply reg_take 1 rfl rfl (by decide +kernel) rfl); (rintro w' ⟨h1, h2, h3, h4⟩; go_simp; rfl); exact hS0; simp only [List.setIfInBounds_toArray, List.set_cons_succ, List.set_cons_zero]
    (apply reg_take 2 rfl rfl (by decide +kernel) rfl); (rintro w' ⟨h1, h2, h3, h4⟩; go_simp; rfl); exact hS0; simp only [List.setIfInBounds_toArray, List.set_cons_succ, List.set_cons_zero]
    refine reg_fork 3 8 (by decide +kernel) ?_ ?_
    · refine rstep_call rfl rfl (by decide +kernel) rfl (f := 25) (args := #[.int .i64 27, .int .u8 97]) (R := fun v w' => v = .string (strB (textL 27)) ∧ Hid (Same w5 w' ∧ Sat w' ((pts A (.cells (tailA ⟨1, 1, ⟨1, 1⟩⟩) TTail (0, 0)) * pts Z (.cells (tailA ⟨0, 0, ⟨0, 0⟩⟩) TTail (0, 0))) * (shelfAt SH p S1 * F)))) (by kernel_rfl) ((HTX.out 27 (by decide) (by decide) _ w5 H1.out.2).mono fun e w' h => ⟨_, h.1, rfl, h.2⟩) ?_
      rintro _ w6 ⟨rfl, hx⟩
      replace H1 := Lib.hid (And.intro (H1.out.1.trans hx.out.1) hx.out.2)
      replace hS0 := (let hc := san_cells (H1.out.2); And.intro hc.1 (And.intro hc.2.1 (And.intro hc.2.2.1 hc.2.2.2.1)))
      clear hx
      refine ⟨hS0, ?_⟩
      simp only [List.setIfInBounds_toArray, List.set_cons_succ, List.set_cons_zero]
      refine reg_fork 4 8 (by decide +kernel) ?_ ?_
      · refine rstep_call rfl rfl (by decide +kernel) rfl (f := 15) (args := #[.pointer (some ⟨p, 0, none⟩), .int .i64 0, .agg (tailA ⟨1, 1, ⟨1, 1⟩⟩), .agg (genA ⟨1, 2⟩), .string (strB (textL 27))]) (R := fun v w' => v = .tuple #[.agg (tailA ⟨3, 2, ⟨1, 2⟩⟩), .int .i64 0] ∧ Hid (Same w6 w' ∧ Sat w' ((pts A (.cells (tailA ⟨1, 1, ⟨1, 1⟩⟩) TTail (0, 0)) * pts Z (.cells (tailA ⟨0, 0, ⟨0, 0⟩⟩) TTail (0, 0))) * (shelfAt SH p S2 * F)))) (by kernel_rfl) ((HAP2.out _ w6 H1.out.2).mono fun e w' h => ⟨_, h.1, rfl, h.2.out.1, h.2.out.2⟩) ?_
        rintro _ w7 ⟨rfl, hx⟩
        replace H1 := Lib.hid (And.intro (H1.out.1.trans hx.out.1) hx.out.2)
        replace hS0 := (let hc := san_cells (H1.out.2); And.intro hc.1 (And.intro hc.2.1 (And.intro hc.2.2.1 hc.2.2.2.1)))
        clear hx
        refine ⟨hS0, ?_⟩
        simp only [List.setIfInBounds_toArray, List.set_cons_succ, List.set_cons_zero]
        (apply reg_take 5 rfl rfl (by decide +kernel) rfl); (rintro w' ⟨h1, h2, h3, h4⟩; go_simp; rfl); exact hS0; simp only [List.setIfInBounds_toArray, List.set_cons_succ, List.set_cons_zero]
        (apply reg_take 6 rfl rfl (by decide +kernel) rfl); (rintro w' ⟨h1, h2, h3, h4⟩; go_simp; rfl); exact hS0; simp only [List.setIfInBounds_toArray, List.set_cons_succ, List.set_cons_zero]
        (apply reg_take 7 rfl rfl (by decide +kernel) rfl); (rintro w' ⟨h1, h2, h3, h4⟩; go_simp; rfl); exact hS0; simp only [List.setIfInBounds_toArray, List.set_cons_succ, List.set_cons_zero]
        refine reg_run 8 (.pointer (some ⟨w7.heap.size, 0, none⟩)) (w7.alloc (.cells zTail TTail)) rfl rfl (by decide +kernel) rfl (exec_alloc_zero rfl _ (zeroTail _)) ((let hc := san_cells ((H1.out.2.alloc (.cells zTail TTail)).right); And.intro hc.1 (And.intro hc.2.1 (And.intro hc.2.2.1 hc.2.2.2.1)))) ?_; simp only [List.setIfInBounds_toArray, List.set_cons_succ, List.set_cons_zero]
        replace H1 := Lib.hid (And.intro (H1.out.1.alloc (.cells zTail TTail)) (H1.out.2.alloc (.cells zTail TTail)))
        generalize w7.alloc (.cells zTail TTail) = w8 at H1 ⊢
        generalize w7.heap.size = g at H1 ⊢
        replace hS0 := (let hc := san_cells (H1.out.2.right); And.intro hc.1 (And.intro hc.2.1 (And.intro hc.2.2.1 hc.2.2.2.1)))
        refine reg_store_blk 9 (T := TTail) (old := zTail) (new := tailA ⟨3, 2, ⟨1, 2⟩⟩) rfl rfl (by decide +kernel) rfl rfl rfl rfl H1.out.2 (infoTail rfl) rfl (by simp [Value.oneCell']) ?_
        intro w9 h9
        replace H1 := Lib.hid (And.intro (H1.out.1.trans h9.out.1) h9.out.2)
        replace hS0 := (let hc := san_cells (H1.out.2.right); And.intro hc.1 (And.intro hc.2.1 (And.intro hc.2.2.1 hc.2.2.2.1)))
        clear h9
        refine ⟨hS0, ?_⟩
        (apply reg_take 10 rfl rfl (by decide +kernel) rfl); (rintro w' ⟨h1, h2, h3, h4⟩; go_simp; rfl); exact hS0; simp only [List.setIfInBounds_toArray, List.set_cons_succ, List.set_cons_zero]
        refine reg_done (by decide +kernel) ?_
        exact ⟨g, rfl, H1⟩
      · refine rstep_run (.pointer (some ⟨w6.heap.size, 0, none⟩)) (w6.alloc (.cells zTail TTail)) rfl rfl (by decide +kernel) rfl (exec_alloc_zero rfl _ (zeroTail _)) ((let hc := san_cells ((H1.out.2.alloc (.cells zTail TTail)).right); And.intro hc.1 (And.intro hc.2.1 (And.intro hc.2.2.1 hc.2.2.2.1)))) ?_; simp only [List.setIfInBounds_toArray, List.set_cons_succ, List.set_cons_zero]
        replace H1 := Lib.hid (And.intro (H1.out.1.alloc (.cells zTail TTail)) (H1.out.2.alloc (.cells zTail TTail)))
        generalize w6.alloc (.cells zTail TTail) = w7 at H1 ⊢
        generalize w6.heap.size = g at H1 ⊢
        replace hS0 := (let hc := san_cells (H1.out.2.right); And.intro hc.1 (And.intro hc.2.1 (And.intro hc.2.2.1 hc.2.2.2.1)))
        refine reg_call 4 rfl rfl (by decide +kernel) rfl (f := 15) (args := #[.pointer (some ⟨p, 0, none⟩), .int .i64 0, .agg (tailA ⟨1, 1, ⟨1, 1⟩⟩), .agg (genA ⟨1, 2⟩), .string (strB (textL 27))]) (R := fun v w' => v = .tuple #[.agg (tailA ⟨3, 2, ⟨1, 2⟩⟩), .int .i64 0] ∧ Hid (Same w7 w' ∧ Sat w' (pts g (.cells zTail TTail (0, 0)) * ((pts A (.cells (tailA ⟨1, 1, ⟨1, 1⟩⟩) TTail (0, 0)) * pts Z (.cells (tailA ⟨0, 0, ⟨0, 0⟩⟩) TTail (0, 0))) * (shelfAt SH p S2 * F))))) (by kernel_rfl) ((HAP2.out _ w7 (H1.out.2.perm (star_assoc _ _ _).symm)).mono fun e w' h => ⟨_, h.1, rfl, h.2.out.1, h.2.out.2.perm (star_assoc _ _ _)⟩) ?_
        rintro _ w8 ⟨rfl, hx⟩
        replace H1 := Lib.hid (And.intro (H1.out.1.trans hx.out.1) hx.out.2)
        replace hS0 := (let hc := san_cells (H1.out.2.right); And.intro hc.1 (And.intro hc.2.1 (And.intro hc.2.2.1 hc.2.2.2.1)))
        clear hx
        refine ⟨hS0, ?_⟩
        simp only [List.setIfInBounds_toArray, List.set_cons_succ, List.set_cons_zero]
        (apply reg_take 5 rfl rfl (by decide +kernel) rfl); (rintro w' ⟨h1, h2, h3, h4⟩; go_simp; rfl); exact hS0; simp only [List.setIfInBounds_toArray, List.set_cons_succ, List.set_cons_zero]
        (apply reg_take 6 rfl rfl (by decide +kernel) rfl); (rintro w' ⟨h1, h2, h3, h4⟩; go_simp; rfl); exact hS0; simp only [List.setIfInBounds_toArray, List.set_cons_succ, List.set_cons_zero]
        (apply reg_take 7 rfl rfl (by decide +kernel) rfl); (rintro w' ⟨h1, h2, h3, h4⟩; go_simp; rfl); exact hS0; simp only [List.setIfInBounds_toArray, List.set_cons_succ, List.set_cons_zero]
        refine reg_store_blk 9 (T := TTail) (old := zTail) (new := tailA ⟨3, 2, ⟨1, 2⟩⟩) rfl rfl (by decide +kernel) rfl rfl rfl rfl H1.out.2 (infoTail rfl) rfl (by simp [Value.oneCell']) ?_
        intro w9 h9
        replace H1 := Lib.hid (And.intro (H1.out.1.trans h9.out.1) h9.out.2)
        replace hS0 := (let hc := san_cells (H1.out.2.right); And.intro hc.1 (And.intro hc.2.1 (And.intro hc.2.2.1 hc.2.2.2.1)))
        clear h9
        refine ⟨hS0, ?_⟩
        (apply reg_take 10 rfl rfl (by decide +kernel) rfl); (rintro w' ⟨h1, h2, h3, h4⟩; go_simp; rfl); exact hS0; simp only [List.setIfInBounds_toArray, List.set_cons_succ, List.set_cons_zero]
        refine reg_done (by decide +kernel) ?_
        exact ⟨g, rfl, H1⟩
    · refine rstep_run (.pointer (some ⟨w5.heap.size, 0, none⟩)) (w5.alloc (.cells zTail TTail)) rfl rfl (by decide +kernel) rfl (exec_alloc_zero rfl _ (zeroTail _)) ((let hc := san_cells ((H1.out.2.alloc (.cells zTail TTail)).right); And.intro hc.1 (And.intro hc.2.1 (And.intro hc.2.2.1 hc.2.2.2.1)))) ?_; simp only [List.setIfInBounds_toArray, List.set_cons_succ, List.set_cons_zero]
      replace H1 := Lib.hid (And.intro (H1.out.1.alloc (.cells zTail TTail)) (H1.out.2.alloc (.cells zTail TTail)))
      generalize w5.alloc (.cells zTail TTail) = w6 at H1 ⊢
      generalize w5.heap.size = g at H1 ⊢
      replace hS0 := (let hc := san_cells (H1.out.2.right); And.intro hc.1 (And.intro hc.2.1 (And.intro hc.2.2.1 hc.2.2.2.1)))
      refine reg_call 3 rfl rfl (by decide +kernel) rfl (f := 25) (args := #[.int .i64 27, .int .u8 97]) (R := fun v w' => v = .string (strB (textL 27)) ∧ Hid (Same w6 w' ∧ Sat w' (pts g (.cells zTail TTail (0, 0)) * ((pts A (.cells (tailA ⟨1, 1, ⟨1, 1⟩⟩) TTail (0, 0)) * pts Z (.cells (tailA ⟨0, 0, ⟨0, 0⟩⟩) TTail (0, 0))) * (shelfAt SH p S1 * F))))) (by kernel_rfl) ((HTX.out 27 (by decide) (by decide) _ w6 H1.out.2).mono fun e w' h => ⟨_, h.1, rfl, h.2⟩) ?_
      rintro _ w7 ⟨rfl, hx⟩
      replace H1 := Lib.hid (And.intro (H1.out.1.trans hx.out.1) hx.out.2)
      replace hS0 := (let hc := san_cells (H1.out.2.right); And.intro hc.1 (And.intro hc.2.1 (And.intro hc.2.2.1 hc.2.2.2.1)))
      clear hx
      refine ⟨hS0, ?_⟩
      simp only [List.setIfInBounds_toArray, List.set_cons_succ, List.set_cons_zero]
      refine reg_call 4 rfl rfl (by decide +kernel) rfl (f := 15) (args := #[.pointer (some ⟨p, 0, none⟩), .int .i64 0, .agg (tailA ⟨1, 1, ⟨1, 1⟩⟩), .agg (genA ⟨1, 2⟩), .string (strB (textL 27))]) (R := fun v w' => v = .tuple #[.agg (tailA ⟨3, 2, ⟨1, 2⟩⟩), .int .i64 0] ∧ Hid (Same w7 w' ∧ Sat w' (pts g (.cells zTail TTail (0, 0)) * ((pts A (.cells (tailA ⟨1, 1, ⟨1, 1⟩⟩) TTail (0, 0)) * pts Z (.cells (tailA ⟨0, 0, ⟨0, 0⟩⟩) TTail (0, 0))) * (shelfAt SH p S2 * F))))) (by kernel_rfl) ((HAP2.out _ w7 (H1.out.2.perm (star_assoc _ _ _).symm)).mono fun e w' h => ⟨_, h.1, rfl, h.2.out.1, h.2.out.2.perm (star_assoc _ _ _)⟩) ?_
      rintro _ w8 ⟨rfl, hx⟩
      replace H1 := Lib.hid (And.intro (H1.out.1.trans hx.out.1) hx.out.2)
      replace hS0 := (let hc := san_cells (H1.out.2.right); And.intro hc.1 (And.intro hc.2.1 (And.intro hc.2.2.1 hc.2.2.2.1)))
      clear hx
      refine ⟨hS0, ?_⟩
      simp only [List.setIfInBounds_toArray, List.set_cons_succ, List.set_cons_zero]
      (apply reg_take 5 rfl rfl (by decide +kernel) rfl); (rintro w' ⟨h1, h2, h3, h4⟩; go_simp; rfl); exact hS0; simp only [List.setIfInBounds_toArray, List.set_cons_succ, List.set_cons_zero]
      (apply reg_take 6 rfl rfl (by decide +kernel) rfl); (rintro w' ⟨h1, h2, h3, h4⟩; go_simp; rfl); exact hS0; simp only [List.setIfInBounds_toArray, List.set_cons_succ, List.set_cons_zero]
      (apply reg_take 7 rfl rfl (by decide +kernel) rfl); (rintro w' ⟨h1, h2, h3, h4⟩; go_simp; rfl); exact hS0; simp only [List.setIfInBounds_toArray, List.set_cons_succ, List.set_cons_zero]
      refine reg_store_blk 9 (T := TTail) (old := zTail) (new := tailA ⟨3, 2, ⟨1, 2⟩⟩) rfl rfl (by decide +kernel) rfl rfl rfl rfl H1.out.2 (infoTail rfl) rfl (by simp [Value.oneCell']) ?_
      intro w9 h9
      replace H1 := Lib.hid (And.intro (H1.out.1.trans h9.out.1) h9.out.2)
      replace hS0 := (let hc := san_cells (H1.out.2.right); And.intro hc.1 (And.intro hc.2.1 (And.intro hc.2.2.1 hc.2.2.2.1)))
      clear h9
      refine ⟨hS0, ?_⟩
      (apply reg_take 10 rfl rfl (by decide +kernel) rfl); (rintro w' ⟨h1, h2, h3, h4⟩; go_simp; rfl); exact hS0; simp only [List.setIfInBounds_toArray, List.set_cons_succ, List.set_cons_zero]
      refine reg_done (by decide +kernel) ?_
      exact ⟨g, rfl, H1⟩
  intro g w6 H1
  dsimp only
  obtain ⟨⟨g0', g1', g2', g3', lg⟩, ⟨a0, a1, a2, a3, la⟩, z0, z1, z2, z3, lz⟩ := e2_cells H1.out.2
  have HSC := Lib.hid (show ∀ W X, Sat W (X * (shelfAt SH p S2 * F)) → Calls Try.prog 12 #[.pointer (some ⟨p, 0, none⟩), .int .i64 0, .agg (tailA ⟨0, 0, ⟨0, 0⟩⟩)] W fun e w' => ∃ v, e = .returned (.tuple #[v, .agg (tailA ⟨3, 2, ⟨1, 2⟩⟩), .int .i64 0]) ∧ Hid (Same W w' ∧ Sat w' (ownS v [rA, textL 27] * (X * (shelfAt SH p S2 * F)))) from fun W X h => by
    have h1 := scan_fine (F := X * F) (d := 0) (N := 8) HA.out.2.2.2.2.2.2.2.2.2.2.1 (by decide) (by decide) (by decide) (t := ⟨0, 0, ⟨0, 0⟩⟩) (by decide) HA.out.2.2.2.2.2.2.2.2.2.1 (by decide) (h.perm (star_left_comm _ _ _))
    exact h1.mono fun e w' ⟨v, he, hs⟩ => ⟨v, he, hs.out.1, hs.out.2.perm (by ac_rfl)⟩)
  go_upto_region 8 with (go_at_call 12; refine (HSC.out _ _ (H1.out.2.perm (star_assoc _ _ _).symm)).mono ?_; rintro e w7 ⟨vs, rfl, h7⟩; replace H1 := Lib.hid (And.intro (H1.out.1.trans h7.out.1) h7.out.2); clear h7 g0' g1' g2' g3' lg a0 a1 a2 a3 la z0 z1 z2 z3 lz)
  have hz := H1.out.2.alloc (.cells (tailA ⟨3, 2, ⟨1, 2⟩⟩) TTail)
  replace H1 := Lib.hid (And.intro (H1.out.1.alloc (.cells (tailA ⟨3, 2, ⟨1, 2⟩⟩) TTail)) (show Sat _ (e3B w7.heap.size vs g A Z * (shelfAt SH p S2 * F)) from hz.perm (by unfold e3B; ac_rfl)))
  clear hz HSC
  generalize w7.alloc (.cells (tailA ⟨3, 2, ⟨1, 2⟩⟩) TTail) = w8 at H1 ⊢
  generalize w7.heap.size = D at H1 ⊢
  obtain ⟨⟨d0, d1, d2, d3, ld⟩, ⟨g0', g1', g2', g3', lg⟩, ⟨a0, a1, a2, a3, la⟩, z0, z1, z2, z3, lz⟩ := e3_cells H1.out.2
  have HAPS := Lib.hid (fun (X : HProp) (W : World) (h : Sat W (X * (shelfAt SH p S2 * F))) => app_to HA.out.2.2.1 (by decide) X W h)
  have HAPF := Lib.hid (fun (X : HProp) (W : World) (h : Sat W (X * (shelfAt SH p S2 * F))) => app_to HA.out.2.2.2.1 (by rw [textL_length]; decide) X W h)
  go_upto_region 9 with (go_at_call 15; refine (HAPS.out _ _ H1.out.2).mono ?_; rintro e w9 ⟨rfl, h9⟩; replace H1 := Lib.hid (And.intro (H1.out.1.trans h9.out.1) h9.out.2); clear h9; clear d0 d1 d2 d3 ld g0' g1' g2' g3' lg a0 a1 a2 a3 la z0 z1 z2 z3 lz)
  replace H1 := Lib.hid (And.intro (H1.out.1.alloc (.cells (tailA noTail) TTail)).drew (show Sat _ (e3B D vs g A Z * (shelfAt SH p S2 * F)) from (H1.out.2.allocKeep (.cells (tailA noTail) TTail)).drew))
  have hS0 := (e3_cells H1.out.2).2.1
  replace hS0 := And.intro hS0.1 (And.intro hS0.2.1 (And.intro hS0.2.2.1 hS0.2.2.2.1))
  refine reg_begin (fun w' => w'.cell? ⟨g, 0, none⟩ = some (.int .i64 3) ∧ w'.cell? ⟨g, 1, none⟩ = some (.int .i64 2) ∧ w'.cell? ⟨g, 2, none⟩ = some (.int .i64 1) ∧ w'.cell? ⟨g, 3, none⟩ = some (.int .i64 2)) (by kernel_rfl) ?_
  generalize (w9.alloc (.cells (tailA noTail) TTail)).drew = w5 at H1 hS0 ⊢
  apply reg_cutT (K := fun q w' => Hid (Same w w' ∧ Sat w' (pts q (.cells (tailA ⟨0, 0, ⟨0, 0⟩⟩) TTail (0, 0)) * (e3B D vs g A Z * (shelfAt SH p S2 * F)))))
  · skip
    (apply reg_take 0 rfl rfl (by decide +kernel) rfl); (rintro w' ⟨h1, h2, h3, h4⟩; go_simp; rfl); exact hS0; simp only [List.setIfInBounds_toArray, List.set_cons_succ, List.set_cons_zero]
    (apply reg_take 1 rfl rfl (by decide +kernel) rfl); (rintro w' ⟨h1, h2, h3, h4⟩; go_simp; rfl); exact hS0; simp only [List.setIfInBounds_toArray, List.set_cons_succ, List.set_cons_zero]
    (apply reg_take 2 rfl rfl (by decide +kernel) rfl); (rintro w' ⟨h1, h2, h3, h4⟩; go_simp; rfl); exact hS0; simp only [List.setIfInBounds_toArray, List.set_cons_succ, List.set_cons_zero]
    refine reg_fork 3 8 (by decide +kernel) ?_ ?_
    · refine rstep_call rfl rfl (by decide +kernel) rfl (f := 25) (args := #[.int .i64 131, .int .u8 97]) (R := fun v w' => v = .string (strB (textL 131)) ∧ Hid (Same w5 w' ∧ Sat w' (e3B D vs g A Z * (shelfAt SH p S2 * F)))) (by kernel_rfl) ((HTX.out 131 (by decide) (by decide) _ w5 H1.out.2).mono fun e w' h => ⟨_, h.1, rfl, h.2⟩) ?_
      rintro _ w6 ⟨rfl, hx⟩
      replace H1 := Lib.hid (And.intro (H1.out.1.trans hx.out.1) hx.out.2)
      replace hS0 := (let hc := (e3_cells (H1.out.2)).2.1; And.intro hc.1 (And.intro hc.2.1 (And.intro hc.2.2.1 hc.2.2.2.1)))
      clear hx
      refine ⟨hS0, ?_⟩
      simp only [List.setIfInBounds_toArray, List.set_cons_succ, List.set_cons_zero]
      refine reg_fork 4 8 (by decide +kernel) ?_ ?_
      · refine rstep_call rfl rfl (by decide +kernel) rfl (f := 15) (args := #[.pointer (some ⟨p, 0, none⟩), .int .i64 0, .agg (tailA ⟨3, 2, ⟨1, 2⟩⟩), .agg (genA ⟨1, 3⟩), .string (strB (textL 131))]) (R := fun v w' => v = .tuple #[.agg (tailA ⟨0, 0, ⟨0, 0⟩⟩), .int .i64 16] ∧ Hid (Same w6 w' ∧ Sat w' (e3B D vs g A Z * (shelfAt SH p S2 * F)))) (by kernel_rfl) ((HAPF.out _ w6 H1.out.2).mono fun e w' h => ⟨_, h.1, rfl, h.2.out.1, h.2.out.2⟩) ?_
        rintro _ w7 ⟨rfl, hx⟩
        replace H1 := Lib.hid (And.intro (H1.out.1.trans hx.out.1) hx.out.2)
        replace hS0 := (let hc := (e3_cells (H1.out.2)).2.1; And.intro hc.1 (And.intro hc.2.1 (And.intro hc.2.2.1 hc.2.2.2.1)))
        clear hx
        refine ⟨hS0, ?_⟩
        simp only [List.setIfInBounds_toArray, List.set_cons_succ, List.set_cons_zero]
        (apply reg_take 5 rfl rfl (by decide +kernel) rfl); (rintro w' ⟨h1, h2, h3, h4⟩; go_simp; rfl); exact hS0; simp only [List.setIfInBounds_toArray, List.set_cons_succ, List.set_cons_zero]
        (apply reg_take 6 rfl rfl (by decide +kernel) rfl); (rintro w' ⟨h1, h2, h3, h4⟩; go_simp; rfl); exact hS0; simp only [List.setIfInBounds_toArray, List.set_cons_succ, List.set_cons_zero]
        (apply reg_take 7 rfl rfl (by decide +kernel) rfl); (rintro w' ⟨h1, h2, h3, h4⟩; go_simp; rfl); exact hS0; simp only [List.setIfInBounds_toArray, List.set_cons_succ, List.set_cons_zero]
        refine reg_run 8 (.pointer (some ⟨w7.heap.size, 0, none⟩)) (w7.alloc (.cells zTail TTail)) rfl rfl (by decide +kernel) rfl (exec_alloc_zero rfl _ (zeroTail _)) ((let hc := (e3_cells ((H1.out.2.alloc (.cells zTail TTail)).right)).2.1; And.intro hc.1 (And.intro hc.2.1 (And.intro hc.2.2.1 hc.2.2.2.1)))) ?_; simp only [List.setIfInBounds_toArray, List.set_cons_succ, List.set_cons_zero]
        replace H1 := Lib.hid (And.intro (H1.out.1.alloc (.cells zTail TTail)) (H1.out.2.alloc (.cells zTail TTail)))
        generalize w7.alloc (.cells zTail TTail) = w8 at H1 ⊢
        generalize w7.heap.size = q at H1 ⊢
        replace hS0 := (let hc := (e3_cells (H1.out.2.right)).2.1; And.intro hc.1 (And.intro hc.2.1 (And.intro hc.2.2.1 hc.2.2.2.1)))
        refine reg_store_blk 9 (T := TTail) (old := zTail) (new := tailA ⟨0, 0, ⟨0, 0⟩⟩) rfl rfl (by decide +kernel) rfl rfl rfl rfl H1.out.2 (infoTail rfl) rfl (by simp [Value.oneCell']) ?_
        intro w9 h9
        replace H1 := Lib.hid (And.intro (H1.out.1.trans h9.out.1) h9.out.2)
        replace hS0 := (let hc := (e3_cells (H1.out.2.right)).2.1; And.intro hc.1 (And.intro hc.2.1 (And.intro hc.2.2.1 hc.2.2.2.1)))
        clear h9
        refine ⟨hS0, ?_⟩
        (apply reg_take 10 rfl rfl (by decide +kernel) rfl); (rintro w' ⟨h1, h2, h3, h4⟩; go_simp; rfl); exact hS0; simp only [List.setIfInBounds_toArray, List.set_cons_succ, List.set_cons_zero]
        refine reg_done (by decide +kernel) ?_
        exact ⟨q, rfl, H1⟩
      · refine rstep_run (.pointer (some ⟨w6.heap.size, 0, none⟩)) (w6.alloc (.cells zTail TTail)) rfl rfl (by decide +kernel) rfl (exec_alloc_zero rfl _ (zeroTail _)) ((let hc := (e3_cells ((H1.out.2.alloc (.cells zTail TTail)).right)).2.1; And.intro hc.1 (And.intro hc.2.1 (And.intro hc.2.2.1 hc.2.2.2.1)))) ?_; simp only [List.setIfInBounds_toArray, List.set_cons_succ, List.set_cons_zero]
        replace H1 := Lib.hid (And.intro (H1.out.1.alloc (.cells zTail TTail)) (H1.out.2.alloc (.cells zTail TTail)))
        generalize w6.alloc (.cells zTail TTail) = w7 at H1 ⊢
        generalize w6.heap.size = q at H1 ⊢
        replace hS0 := (let hc := (e3_cells (H1.out.2.right)).2.1; And.intro hc.1 (And.intro hc.2.1 (And.intro hc.2.2.1 hc.2.2.2.1)))
        refine reg_call 4 rfl rfl (by decide +kernel) rfl (f := 15) (args := #[.pointer (some ⟨p, 0, none⟩), .int .i64 0, .agg (tailA ⟨3, 2, ⟨1, 2⟩⟩), .agg (genA ⟨1, 3⟩), .string (strB (textL 131))]) (R := fun v w' => v = .tuple #[.agg (tailA ⟨0, 0, ⟨0, 0⟩⟩), .int .i64 16] ∧ Hid (Same w7 w' ∧ Sat w' (pts q (.cells zTail TTail (0, 0)) * (e3B D vs g A Z * (shelfAt SH p S2 * F))))) (by kernel_rfl) ((HAPF.out _ w7 (H1.out.2.perm (star_assoc _ _ _).symm)).mono fun e w' h => ⟨_, h.1, rfl, h.2.out.1, h.2.out.2.perm (star_assoc _ _ _)⟩) ?_
        rintro _ w8 ⟨rfl, hx⟩
        replace H1 := Lib.hid (And.intro (H1.out.1.trans hx.out.1) hx.out.2)
        replace hS0 := (let hc := (e3_cells (H1.out.2.right)).2.1; And.intro hc.1 (And.intro hc.2.1 (And.intro hc.2.2.1 hc.2.2.2.1)))
        clear hx
        refine ⟨hS0, ?_⟩
        simp only [List.setIfInBounds_toArray, List.set_cons_succ, List.set_cons_zero]
        (apply reg_take 5 rfl rfl (by decide +kernel) rfl); (rintro w' ⟨h1, h2, h3, h4⟩; go_simp; rfl); exact hS0; simp only [List.setIfInBounds_toArray, List.set_cons_succ, List.set_cons_zero]
        (apply reg_take 6 rfl rfl (by decide +kernel) rfl); (rintro w' ⟨h1, h2, h3, h4⟩; go_simp; rfl); exact hS0; simp only [List.setIfInBounds_toArray, List.set_cons_succ, List.set_cons_zero]
        (apply reg_take 7 rfl rfl (by decide +kernel) rfl); (rintro w' ⟨h1, h2, h3, h4⟩; go_simp; rfl); exact hS0; simp only [List.setIfInBounds_toArray, List.set_cons_succ, List.set_cons_zero]
        refine reg_store_blk 9 (T := TTail) (old := zTail) (new := tailA ⟨0, 0, ⟨0, 0⟩⟩) rfl rfl (by decide +kernel) rfl rfl rfl rfl H1.out.2 (infoTail rfl) rfl (by simp [Value.oneCell']) ?_
        intro w9 h9
        replace H1 := Lib.hid (And.intro (H1.out.1.trans h9.out.1) h9.out.2)
        replace hS0 := (let hc := (e3_cells (H1.out.2.right)).2.1; And.intro hc.1 (And.intro hc.2.1 (And.intro hc.2.2.1 hc.2.2.2.1)))
        clear h9
        refine ⟨hS0, ?_⟩
        (apply reg_take 10 rfl rfl (by decide +kernel) rfl); (rintro w' ⟨h1, h2, h3, h4⟩; go_simp; rfl); exact hS0; simp only [List.setIfInBounds_toArray, List.set_cons_succ, List.set_cons_zero]
        refine reg_done (by decide +kernel) ?_
        exact ⟨q, rfl, H1⟩
    · refine rstep_run (.pointer (some ⟨w5.heap.size, 0, none⟩)) (w5.alloc (.cells zTail TTail)) rfl rfl (by decide +kernel) rfl (exec_alloc_zero rfl _ (zeroTail _)) ((let hc := (e3_cells ((H1.out.2.alloc (.cells zTail TTail)).right)).2.1; And.intro hc.1 (And.intro hc.2.1 (And.intro hc.2.2.1 hc.2.2.2.1)))) ?_; simp only [List.setIfInBounds_toArray, List.set_cons_succ, List.set_cons_zero]
      replace H1 := Lib.hid (And.intro (H1.out.1.alloc (.cells zTail TTail)) (H1.out.2.alloc (.cells zTail TTail)))
      generalize w5.alloc (.cells zTail TTail) = w6 at H1 ⊢
      generalize w5.heap.size = q at H1 ⊢
      replace hS0 := (let hc := (e3_cells (H1.out.2.right)).2.1; And.intro hc.1 (And.intro hc.2.1 (And.intro hc.2.2.1 hc.2.2.2.1)))
      refine reg_call 3 rfl rfl (by decide +kernel) rfl (f := 25) (args := #[.int .i64 131, .int .u8 97]) (R := fun v w' => v = .string (strB (textL 131)) ∧ Hid (Same w6 w' ∧ Sat w' (pts q (.cells zTail TTail (0, 0)) * (e3B D vs g A Z * (shelfAt SH p S2 * F))))) (by kernel_rfl) ((HTX.out 131 (by decide) (by decide) _ w6 H1.out.2).mono fun e w' h => ⟨_, h.1, rfl, h.2⟩) ?_
      rintro _ w7 ⟨rfl, hx⟩
      replace H1 := Lib.hid (And.intro (H1.out.1.trans hx.out.1) hx.out.2)
      replace hS0 := (let hc := (e3_cells (H1.out.2.right)).2.1; And.intro hc.1 (And.intro hc.2.1 (And.intro hc.2.2.1 hc.2.2.2.1)))
      clear hx
      refine ⟨hS0, ?_⟩
      simp only [List.setIfInBounds_toArray, List.set_cons_succ, List.set_cons_zero]
      refine reg_call 4 rfl rfl (by decide +kernel) rfl (f := 15) (args := #[.pointer (some ⟨p, 0, none⟩), .int .i64 0, .agg (tailA ⟨3, 2, ⟨1, 2⟩⟩), .agg (genA ⟨1, 3⟩), .string (strB (textL 131))]) (R := fun v w' => v = .tuple #[.agg (tailA ⟨0, 0, ⟨0, 0⟩⟩), .int .i64 16] ∧ Hid (Same w7 w' ∧ Sat w' (pts q (.cells zTail TTail (0, 0)) * (e3B D vs g A Z * (shelfAt SH p S2 * F))))) (by kernel_rfl) ((HAPF.out _ w7 (H1.out.2.perm (star_assoc _ _ _).symm)).mono fun e w' h => ⟨_, h.1, rfl, h.2.out.1, h.2.out.2.perm (star_assoc _ _ _)⟩) ?_
      rintro _ w8 ⟨rfl, hx⟩
      replace H1 := Lib.hid (And.intro (H1.out.1.trans hx.out.1) hx.out.2)
      replace hS0 := (let hc := (e3_cells (H1.out.2.right)).2.1; And.intro hc.1 (And.intro hc.2.1 (And.intro hc.2.2.1 hc.2.2.2.1)))
      clear hx
      refine ⟨hS0, ?_⟩
      simp only [List.setIfInBounds_toArray, List.set_cons_succ, List.set_cons_zero]
      (apply reg_take 5 rfl rfl (by decide +kernel) rfl); (rintro w' ⟨h1, h2, h3, h4⟩; go_simp; rfl); exact hS0; simp only [List.setIfInBounds_toArray, List.set_cons_succ, List.set_cons_zero]
      (apply reg_take 6 rfl rfl (by decide +kernel) rfl); (rintro w' ⟨h1, h2, h3, h4⟩; go_simp; rfl); exact hS0; simp only [List.setIfInBounds_toArray, List.set_cons_succ, List.set_cons_zero]
      (apply reg_take 7 rfl rfl (by decide +kernel) rfl); (rintro w' ⟨h1, h2, h3, h4⟩; go_simp; rfl); exact hS0; simp only [List.setIfInBounds_toArray, List.set_cons_succ, List.set_cons_zero]
      refine reg_store_blk 9 (T := TTail) (old := zTail) (new := tailA ⟨0, 0, ⟨0, 0⟩⟩) rfl rfl (by decide +kernel) rfl rfl rfl rfl H1.out.2 (infoTail rfl) rfl (by simp [Value.oneCell']) ?_
      intro w9 h9
      replace H1 := Lib.hid (And.intro (H1.out.1.trans h9.out.1) h9.out.2)
      replace hS0 := (let hc := (e3_cells (H1.out.2.right)).2.1; And.intro hc.1 (And.intro hc.2.1 (And.intro hc.2.2.1 hc.2.2.2.1)))
      clear h9
      refine ⟨hS0, ?_⟩
      (apply reg_take 10 rfl rfl (by decide +kernel) rfl); (rintro w' ⟨h1, h2, h3, h4⟩; go_simp; rfl); exact hS0; simp only [List.setIfInBounds_toArray, List.set_cons_succ, List.set_cons_zero]
      refine reg_done (by decide +kernel) ?_
      exact ⟨q, rfl, H1⟩
  intro q w10 H1
  try dsimp only
  replace H1 := Lib.hid (And.intro H1.out.1 H1.out.2.right)
  have HMK4 := Lib.hid (show ∀ X W, Sat W (X * (shelfAt SH p S2 * F)) → Calls Try.prog 23 #[.pointer (some ⟨p, 0, none⟩), .int .i64 0, .int .i64 4] W fun e w' => e = .returned (.int .i64 0) ∧ Hid (Same W w' ∧ Sat w' (X * (shelfAt SH p S3 * F))) from fun X W h => mark_to (n := 4) (d := 0) HA.out.2.2.2.2.2.2.2.2.2.2.1 (by decide) (by decide) (by decide) HA.out.2.2.2.2.2.1 X W h)
  have HMK5 := Lib.hid (show ∀ X W, Sat W (X * (shelfAt SH p S3 * F)) → Calls Try.prog 23 #[.pointer (some ⟨p, 0, none⟩), .int .i64 0, .int .i64 5] W fun e w' => e = .returned (.int .i64 0) ∧ Hid (Same W w' ∧ Sat w' (X * (shelfAt SH p S4 * F))) from fun X W h => mark_to (n := 5) (d := 0) HA.out.2.2.2.2.2.2.2.2.2.2.2.1 (by decide) (by decide) (by decide) HA.out.2.2.2.2.2.2.1 X W h)
  have HMK6 := Lib.hid (show ∀ X W, Sat W (X * (shelfAt SH p S4 * F)) → Calls Try.prog 23 #[.pointer (some ⟨p, 0, none⟩), .int .i64 0, .int .i64 6] W fun e w' => e = .returned (.int .i64 0) ∧ Hid (Same W w' ∧ Sat w' (X * (shelfAt SH p S5 * F))) from fun X W h => mark_to (n := 6) (d := 0) HA.out.2.2.2.2.2.2.2.2.2.2.2.2.1 (by decide) (by decide) (by decide) HA.out.2.2.2.2.2.2.2.1 X W h)
  have HMD0 := Lib.hid (show ∀ X W, Sat W (X * (shelfAt SH p S2 * F)) → _ from fun X W h => marked_to (d := 0) (a := 8) HA.out.2.2.2.2.2.2.2.2.2.2.1 (by decide) (by decide) HA.out.2.2.2.2.1 X W h)
  have HMD6 := Lib.hid (show ∀ X W, Sat W (X * (shelfAt SH p S5 * F)) → _ from fun X W h => marked_to (d := 0) (a := 8) HA.out.2.2.2.2.2.2.2.2.2.2.2.2.2 (by decide) (by decide) HA.out.2.2.2.2.2.2.2.2.1 X W h)
  have HMB := Lib.hid (show ∀ X W, Sat W (X * (shelfAt SH p S5 * F)) → Calls Try.prog 23 #[.pointer (some ⟨p, 0, none⟩), .int .i64 0, .int .i64 0] W fun e w' => e = .returned (.int .i64 1) ∧ Hid (Same W w' ∧ Sat w' (X * (shelfAt SH p S5 * F))) from fun X W h => (mark_bad p S5 (X * F) W (h.perm (star_left_comm _ _ _))).mono fun e w' h' => ⟨h'.1, h'.2.out.1, h'.2.out.2.perm (star_left_comm _ _ _)⟩)
  have HS27 := Lib.hid (show ∀ W, Calls Try.prog 13 #[.int .i64 27] W fun e w' => e = .returned (.int .i64 2) ∧ W = w' from fun W => size_any 27 (by decide) (by decide) W)
  have HS00 := Lib.hid (show ∀ W, Calls Try.prog 13 #[.int .i64 0] W fun e w' => e = .returned (.int .i64 1) ∧ W = w' from fun W => size_any 0 (by decide) (by decide) W)
  have HSN := Lib.hid (fun W => size_neg W)
  go_upto_region 15 with (first
    | (go_at_call 24; (with_reducible refine (HMD0.out _ _ H1.out.2).mono ?_); rintro e w11 ⟨rfl, hx⟩; replace H1 := Lib.hid (And.intro (H1.out.1.trans hx.out.1) hx.out.2); clear hx HMD0)
    | (go_at_call 23; (with_reducible refine (HMK4.out _ _ H1.out.2).mono ?_); rintro e w12 ⟨rfl, hx⟩; replace H1 := Lib.hid (And.intro (H1.out.1.trans hx.out.1) hx.out.2); clear hx HMK4)
    | (go_at_call 23; (with_reducible refine (HMK5.out _ _ H1.out.2).mono ?_); rintro e w13 ⟨rfl, hx⟩; replace H1 := Lib.hid (And.intro (H1.out.1.trans hx.out.1) hx.out.2); clear hx HMK5)
    | (go_at_call 23; (with_reducible refine (HMK6.out _ _ H1.out.2).mono ?_); rintro e w14 ⟨rfl, hx⟩; replace H1 := Lib.hid (And.intro (H1.out.1.trans hx.out.1) hx.out.2); clear hx HMK6)
    | (go_at_call 24; (with_reducible refine (HMD6.out _ _ H1.out.2).mono ?_); rintro e w15 ⟨rfl, hx⟩; replace H1 := Lib.hid (And.intro (H1.out.1.trans hx.out.1) hx.out.2); clear hx HMD6))
  obtain ⟨⟨d0, d1, d2, d3, ld⟩, ⟨g0', g1', g2', g3', lg⟩, ⟨a0, a1, a2, a3, la⟩, z0, z1, z2, z3, lz⟩ := e3_cells H1.out.2
  go_wp2_with (first
    | (go_at_call 23; (with_reducible refine (HMB.out _ _ H1.out.2).mono ?_); rintro e w16 ⟨rfl, hx⟩; replace H1 := Lib.hid (And.intro (H1.out.1.trans hx.out.1) hx.out.2); clear hx; clear d0 d1 d2 d3 ld g0' g1' g2' g3' lg a0 a1 a2 a3 la z0 z1 z2 z3 lz; obtain ⟨⟨d0, d1, d2, d3, ld⟩, ⟨g0', g1', g2', g3', lg⟩, ⟨a0, a1, a2, a3, la⟩, z0, z1, z2, z3, lz⟩ := e3_cells H1.out.2)
    | (go_at_call 25; refine (HTX.out 27 (by decide) (by decide) _ _ H1.out.2).mono ?_; rintro e w17 ⟨rfl, hx⟩; replace H1 := Lib.hid (And.intro (H1.out.1.trans hx.out.1) hx.out.2); clear hx; clear d0 d1 d2 d3 ld g0' g1' g2' g3' lg a0 a1 a2 a3 la z0 z1 z2 z3 lz; obtain ⟨⟨d0, d1, d2, d3, ld⟩, ⟨g0', g1', g2', g3', lg⟩, ⟨a0, a1, a2, a3, la⟩, z0, z1, z2, z3, lz⟩ := e3_cells H1.out.2)
    | (go_at_call 14; refine (same18_any _ _ [strB rA, strB (textL 27)] [strB rA, strB (textL 27)] _ (e3_strs (H1.out.2.allocKeep _)) (pair_strs _ _ _) (by decide)).mono ?_; rintro e w18 ⟨rfl, hb⟩; replace H1 := Lib.hid (And.intro ((H1.out.1.alloc _).below hb) ((H1.out.2.allocKeep _).below hb)); clear hb)
    | (go_at_call 13; (with_reducible refine (HS27.out _).mono ?_); rintro e w' ⟨rfl, rfl⟩)
    | (go_at_call 13; (with_reducible refine (HS00.out _).mono ?_); rintro e w' ⟨rfl, rfl⟩)
    | (go_at_call 13; (with_reducible refine (HSN.out _).mono ?_); rintro e w' ⟨rfl, rfl⟩)
    | fail)
  go_ret
  exact ⟨rfl, H1.out.1, H1.out.2.right.right⟩
end Go.Proofs.Ytbegomjbakidmaa
