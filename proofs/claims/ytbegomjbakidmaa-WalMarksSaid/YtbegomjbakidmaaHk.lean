/- WalMarks: for all first marks, numbers, fuses and picks the law answers true. -/
import Derived.Test.YtbegomjbakidmaaHm
namespace Go.Proofs.Ytbegomjbakidmaa
open Go.RowKit Go.Sl Go.ChangeMaps

theorem mk_mark {p : Nat} {S S' : ShelfM} {n : Nat} {er : Int} (hc : S.cfg = cfgW 1) (hn : 1 ≤ n ∧ n < 4294967296) (h : markM S 0 n = (S', er)) (z : Int) (hz : z = (n : Int)) (X F : HProp) (W : World) (hS : Sat W (X * (shelfAt SH p S * F))) :
    Calls Try.prog 23 #[.pointer (some ⟨p, 0, none⟩), .int .i64 0, .int .i64 z] W fun e w' => e = .returned (.int .i64 er) ∧ Hid (Same W w' ∧ Sat w' (X * (shelfAt SH p S' * F))) := by
  subst hz
  have h1 := mark_any p S (X * F) 0 n (by rw [hc]; exact ⟨by decide, by show (0 : Int) < 2; decide⟩) (by rw [hc]; show (3 : Int) ≤ 1 + 3; decide) hn W (hS.perm (star_left_comm _ _ _))
  rw [h] at h1
  exact h1.mono fun _ _ h => ⟨h.1, h.2.out.1, h.2.out.2.perm (star_left_comm _ _ _)⟩
theorem mk_flush {p : Nat} {S S' : ShelfM} {er : Int} (he : S.flush 0 = (S', er)) (X F : HProp) (W : World) (h : Sat W (X * (shelfAt SH p S * F))) : Calls Try.prog 21 #[.pointer (some ⟨p, 0, none⟩), .int .i64 0] W fun e w' => e = .returned (.int .i64 er) ∧ Hid (Same W w' ∧ Sat w' (X * (shelfAt SH p S' * F))) := by
  have h1 := sflush_any p S (X * F) 0 W (h.perm (star_left_comm _ _ _))
  rw [he] at h1
  exact h1.mono fun _ _ h => ⟨h.1, h.2.out.1, h.2.out.2.perm (star_left_comm _ _ _)⟩
theorem mk_fuse {p : Nat} {S : ShelfM} {n : Int} (hn : n < 9223372036854775808) (X F : HProp) (W : World) (h : Sat W (X * (shelfAt SH p S * F))) : Calls Try.prog 20 #[.pointer (some ⟨p, 0, none⟩), .int .i64 n] W fun e w' => e = .returned (.tuple #[]) ∧ Hid (Same W w' ∧ Sat w' (X * (shelfAt SH p (S.fuse n) * F))) :=
  (fuse_any p S (X * F) n W (h.perm (star_left_comm _ _ _)) hn).mono fun _ _ h => ⟨h.1, h.2.out.1, h.2.out.2.perm (star_left_comm _ _ _)⟩
theorem mk_mount {p : Nat} {S : ShelfM} {pv : Value} {picks : List Int} {w : World} (hp : IntsC w pv picks) (hl : picks.length ≤ 9223372036854775807) (X : HProp) (W : World) (h : Sat W (X * (shelfAt SH p S * old w))) : Calls Try.prog 22 #[.pointer (some ⟨p, 0, none⟩), pv] W fun e w' => e = .returned (.tuple #[]) ∧ Hid (Same W w' ∧ Sat w' (X * (shelfAt SH p (S.mount picks) * old w))) :=
  (mount_any p S (X * old w) pv picks W (h.perm (star_left_comm _ _ _)) (fun w' h' => ints_old hp h') hl).mono fun _ _ h => ⟨h.1, h.2.out.1, h.2.out.2.perm (star_left_comm _ _ _)⟩
structure MaSt (w : World) (first p : Nat) (v11 : Value) (wr : World) : Prop where
  st : ∃ (i : Nat) (S : ShelfM), first - 3 ≤ i ∧ i ≤ first ∧ v11 = .int .i64 (i : Int) ∧ MkA S (first - 3) i ∧ (first - 3 < i → durL S 0 = conL S 0) ∧ Same w wr ∧ Sat wr (emp * (shelfAt SH p S * old w))
structure MbSt (w : World) (first n p : Nat) (v12 v13 : Value) (wr : World) : Prop where
  st : ∃ (i k : Nat) (S : ShelfM), k + 1 = first + i ∧ i ≤ n ∧ v12 = .int .i64 (k : Int) ∧ v13 = .int .i64 (i : Int) ∧ MkI S k ∧ Same w wr ∧ Sat wr (emp * (shelfAt SH p S * old w))
set_option maxHeartbeats 4000000 in
set_option maxRecDepth 100000 in
theorem marks_law (first n fuse : Int) (vp : Value) (picks : List Int) (w : World) (hfu : fuse < 9223372036854775808) (hpk : IntsC w vp picks) (hpl : picks.length ≤ 9223372036854775807) :
    Calls Try.prog 9 #[.int .i64 first, .int .i64 n, .int .i64 fuse, vp] w fun e w' => e = .returned (.bool true) ∧ Below w.heap.size w w' := by
  obtain ⟨aop, capp, rfl, _⟩ := id hpk
  have HSAN := Lib.hid (fun X W (h : Sat W (X * old w)) => sanity_old w W h)
  have HW := Lib.hid (show Sat w (emp * old w) from by rw [emp_star]; exact Sat.old w)
  cases d1 : decide (first < 4)
  · skip
    cases d2 : decide (2147483648 < first)
    · skip
      cases d3 : decide (n < 0)
      · skip
        cases d4 : decide (40 < n)
        · skip
          have hf1 := of_decide_eq_false d1
          have hf2 := of_decide_eq_false d2
          have hf3 := of_decide_eq_false d3
          have hf4 := of_decide_eq_false d4
          obtain ⟨first, rfl⟩ := Int.eq_ofNat_of_zero_le (show 0 ≤ first by omega)
          obtain ⟨n, rfl⟩ := Int.eq_ofNat_of_zero_le (show 0 ≤ n by omega)
          have HB := Lib.hid (And.intro (show 4 ≤ first ∧ first ≤ 2147483648 by omega) (And.intro (show n ≤ 40 by omega) (And.intro hfu hpl)))
          have HPK := Lib.hid hpk
          have HCF := Lib.hid (fun W => config18_any 1 (by decide) (by decide) W)
          have HNEW := Lib.hid (fun W (h : Sat W (old w)) => snew_ok (cfgW 1) (old w) W h (cfgW_ok (by decide) (by decide)) (by rw [cfgW_sectors]; decide))
          have hw3 : IntKind.i64.wrap ((first : Int) - 3) = ((first - 3 : Nat) : Int) := by rw [IntWalk.i64_in _ (by omega)]; omega
          clear hpk hpl hfu hf1 hf2 hf3 hf4
          go_enter Try.func9, Try.ntmps9
          go_wp2_with (first
            | (go_at_call 19; refine (HCF.out _).mono ?_; rintro e w1 ⟨rfl, hb1⟩)
            | (go_at_call 18; refine (HNEW.out _ ((Sat.old w).below hb1)).mono ?_; rintro e w2 ⟨p, rfl, h2⟩))
          have hst : MaSt w first p (.int .i64 ((first - 3 : Nat) : Int)) w2 := ⟨⟨first - 3, _, Nat.le_refl _, by omega, rfl, mkA_new _, fun h => absurd h (Nat.lt_irrefl _), ((Same.refl w).below hb1).trans h2.out.1, by rw [emp_star]; exact h2.out.2⟩⟩
          have HST := Lib.hid hst
          clear hst h2 hb1 hw3 HCF HNEW
          generalize ((first - 3 : Nat) : Int) = z0 at HST ⊢
          go_loopw [11] (fun v11 wr => MaSt w first p v11 wr) (fun v11 _ => first + 1 - (intOf v11).toNat)
          case atStart => exact HST.out
          case round =>
            obtain ⟨i, S, hi0, hi, rfl, hinv, hdu, hsm, hs⟩ := hrel.st
            clear hrel HST
            have hfi := HB.out.1
            have hn40 := HB.out.2.1
            have H1 := Lib.hid (And.intro hsm hs)
            clear hsm hs
            have hwi : IntKind.i64.wrap ((i : Int) + 1) = (i : Int) + 1 := IntWalk.i64_in _ (by omega)
            by_cases hlt : i < first
            · have hltd : decide ((i : Int) < (first : Int)) = true := decide_eq_true (by omega)
              obtain ⟨S1, S2, hm, hfe, hc2, hd2⟩ := mkA_step hinv (by omega)
              have HMK := Lib.hid (mk_mark (p := p) hinv.fine.cfg (by omega) hm (i : Int) rfl)
              have HFL := Lib.hid (mk_flush (p := p) hfe)
              have HC2 := Lib.hid (And.intro hc2 hd2)
              clear hinv hm hc2 hfe hdu hd2
              go_wp2_with (first
                | (go_at_call 23; refine (HMK.out _ _ _ H1.out.2).mono ?_; rintro e w8 ⟨rfl, h2⟩; replace H1 := Lib.hid (And.intro (H1.out.1.trans h2.out.1) h2.out.2); clear h2)
                | (go_at_call 21; refine (HFL.out _ _ _ H1.out.2).mono ?_; rintro e w9 ⟨rfl, h2⟩; replace H1 := Lib.hid (And.intro (H1.out.1.trans h2.out.1) h2.out.2); clear h2))
              go_roundw
              case rel => exact ⟨⟨i + 1, S2, by omega, hlt, rfl, HC2.out.1, fun _ => HC2.out.2, H1.out.1, H1.out.2⟩⟩
              case measure => simp only [intOf]; omega
            · have hie : i = first := by omega
              subst hie
              have hltd : decide ((i : Int) < (i : Int)) = false := decide_eq_false (by omega)
              have hmi := mkI_start (k := i - 1) (by omega) (by rw [show i - 1 - 2 = i - 3 by omega, show i - 1 + 1 = i by omega]; exact hinv) (hdu (by omega)) HB.out.2.2.1
              have HFU := Lib.hid (mk_fuse (p := p) (S := S) HB.out.2.2.1)
              have hw1 : IntKind.i64.wrap ((i : Int) - 1) = ((i - 1 : Nat) : Int) := by rw [IntWalk.i64_in _ (by omega)]; omega
              clear hinv hdu
              go_wp2_with (go_at_call 20; refine (HFU.out _ _ _ H1.out.2).mono ?_; rintro e w5 ⟨rfl, h2⟩; replace H1 := Lib.hid (And.intro (H1.out.1.trans h2.out.1) h2.out.2); clear h2)
              have hst : MbSt w i n p (.int .i64 ((i - 1 : Nat) : Int)) (.int .i64 0) w5 := ⟨⟨0, i - 1, _, by omega, Nat.zero_le _, rfl, rfl, hmi, H1.out.1, H1.out.2⟩⟩
              have HST := Lib.hid hst
              clear hst H1 hmi HFU hw1 hlt hltd hwi
              generalize ((i - 1 : Nat) : Int) = z at HST ⊢
              go_loopw [12, 13] (fun v12 v13 wr => MbSt w i n p v12 v13 wr) (fun _ v13 _ => n + 1 - (intOf v13).toNat)
              case atStart => exact HST.out
              case round =>
                obtain ⟨j, k, S, hki, hi, rfl, rfl, hinv, hsm, hs⟩ := hrel.st
                clear hrel HST
                have hfi := HB.out.1
                have hn40 := HB.out.2.1
                have H1 := Lib.hid (And.intro hsm hs)
                clear hsm hs
                have hwr : IntKind.i64.wrap ((i : Int) + (j : Int)) = (k : Int) + 1 := by rw [IntWalk.i64_in _ (by omega)]; omega
                have hwi : IntKind.i64.wrap ((j : Int) + 1) = (j : Int) + 1 := IntWalk.i64_in _ (by omega)
                by_cases hlt : j < n
                · have hltd : decide ((j : Int) < (n : Int)) = true := decide_eq_true (by omega)
                  rcases hinv.next (by omega) (by omega) with ⟨S1, hm, hco⟩ | ⟨S1, S2, hm, ⟨hfe, hco⟩ | ⟨hfe, hc2⟩⟩
                  · have HMK := Lib.hid (mk_mark (p := p) hinv.fine.cfg (by omega) hm ((k : Int) + 1) (by omega))
                    have HCO := Lib.hid hco
                    clear hinv hm hco
                    go_upto_region 18 with (go_at_call 23; refine (HMK.out _ _ _ H1.out.2).mono ?_; rintro e w9 ⟨rfl, h2⟩; replace H1 := Lib.hid (And.intro (H1.out.1.trans h2.out.1) h2.out.2); clear h2)
                    have HMT := Lib.hid (mk_mount (p := p) (S := S1) HPK.out HB.out.2.2.2)
                    obtain ⟨hf, x, y, hmv, hx, hy⟩ := HCO.out picks (mount_wf (shelfAt_wf (H1.out.2.perm (star_left_comm _ _ _))) picks)
                    have HMD := Lib.hid (fun X W h => marked_to (p := p) (F := old w) hf (d := 0) (a := 1) rfl ⟨by decide, by show (0 : Int) < 2; decide⟩ hmv X W h)
                    have hkw : IntKind.i64.wrap ((k : Int) + 1) = (k : Int) + 1 := IntWalk.i64_in _ (by omega)
                    subst hy
                    clear hf hmv HCO
                    rcases hx with rfl | rfl
                    · skip
                      have hyw : IntKind.i64.wrap ((k : Int) - 1) = (k : Int) - 1 := IntWalk.i64_in _ (by omega)
                      have hxt : ((k : Int)).tmod 2 = ((k : Int)) % 2 := Int.tmod_eq_emod_of_nonneg (by omega)
                      have hyw2 : IntKind.i64.wrap ((k : Int) - 1 + ((k : Int)) % 2) = (k : Int) - 1 + ((k : Int)) % 2 := IntWalk.i64_in _ (by omega)
                      go_wp2_with (first
                        | (go_at_call 22; refine (HMT.out _ _ H1.out.2).mono ?_; rintro e w10 ⟨rfl, h2⟩; replace H1 := Lib.hid (And.intro (H1.out.1.trans h2.out.1) h2.out.2); clear h2)
                        | (go_at_call 24; refine (HMD.out _ _ H1.out.2).mono ?_; rintro e w11 ⟨rfl, h2⟩; replace H1 := Lib.hid (And.intro (H1.out.1.trans h2.out.1) h2.out.2); clear h2)
                        | (go_at_call 10; refine (HSAN.out _ _ (H1.out.2.perm (star_assoc _ _ _).symm)).mono ?_; rintro e w12 ⟨rfl, h2⟩; replace H1 := Lib.hid (And.intro (H1.out.1.trans h2.out.1) (h2.out.2.perm (star_assoc _ _ _))); clear h2)
                        | fail)
                      all_goals (first
                        | (exfalso; omega)
                        | (go_ret; exact ⟨rfl, H1.out.1.below_of (H1.out.2.perm (star_assoc _ _ _).symm)⟩))
                    · have hne : ((k : Int) + 1 == (k : Int)) = false := by simp; omega
                      have hyw : IntKind.i64.wrap (((k : Int) + 1) - 1) = ((k : Int) + 1) - 1 := IntWalk.i64_in _ (by omega)
                      have hxt : (((k : Int) + 1)).tmod 2 = (((k : Int) + 1)) % 2 := Int.tmod_eq_emod_of_nonneg (by omega)
                      have hyw2 : IntKind.i64.wrap (((k : Int) + 1) - 1 + (((k : Int) + 1)) % 2) = ((k : Int) + 1) - 1 + (((k : Int) + 1)) % 2 := IntWalk.i64_in _ (by omega)
                      go_wp2_with (first
                        | (go_at_call 22; refine (HMT.out _ _ H1.out.2).mono ?_; rintro e w10 ⟨rfl, h2⟩; replace H1 := Lib.hid (And.intro (H1.out.1.trans h2.out.1) h2.out.2); clear h2)
                        | (go_at_call 24; refine (HMD.out _ _ H1.out.2).mono ?_; rintro e w11 ⟨rfl, h2⟩; replace H1 := Lib.hid (And.intro (H1.out.1.trans h2.out.1) h2.out.2); clear h2)
                        | (go_at_call 10; refine (HSAN.out _ _ (H1.out.2.perm (star_assoc _ _ _).symm)).mono ?_; rintro e w12 ⟨rfl, h2⟩; replace H1 := Lib.hid (And.intro (H1.out.1.trans h2.out.1) (h2.out.2.perm (star_assoc _ _ _))); clear h2)
                        | fail)
                      all_goals (first
                        | (exfalso; omega)
                        | (go_ret; exact ⟨rfl, H1.out.1.below_of (H1.out.2.perm (star_assoc _ _ _).symm)⟩))
                  · have HMK := Lib.hid (mk_mark (p := p) hinv.fine.cfg (by omega) hm ((k : Int) + 1) (by omega))
                    have HFL := Lib.hid (mk_flush (p := p) hfe)
                    have HCO := Lib.hid hco
                    clear hinv hm hco hfe
                    go_upto_region 18 with (first
                      | (go_at_call 23; refine (HMK.out _ _ _ H1.out.2).mono ?_; rintro e w8 ⟨rfl, h2⟩; replace H1 := Lib.hid (And.intro (H1.out.1.trans h2.out.1) h2.out.2); clear h2)
                      | (go_at_call 21; refine (HFL.out _ _ _ H1.out.2).mono ?_; rintro e w9 ⟨rfl, h2⟩; replace H1 := Lib.hid (And.intro (H1.out.1.trans h2.out.1) h2.out.2); clear h2))
                    have HMT := Lib.hid (mk_mount (p := p) (S := S2) HPK.out HB.out.2.2.2)
                    obtain ⟨hf, x, y, hmv, hx, hy⟩ := HCO.out picks (mount_wf (shelfAt_wf (H1.out.2.perm (star_left_comm _ _ _))) picks)
                    have HMD := Lib.hid (fun X W h => marked_to (p := p) (F := old w) hf (d := 0) (a := 1) rfl ⟨by decide, by show (0 : Int) < 2; decide⟩ hmv X W h)
                    have hkw : IntKind.i64.wrap ((k : Int) + 1) = (k : Int) + 1 := IntWalk.i64_in _ (by omega)
                    subst hy
                    clear hf hmv HCO
                    rcases hx with rfl | rfl
                    · skip
                      have hyw : IntKind.i64.wrap ((k : Int) - 1) = (k : Int) - 1 := IntWalk.i64_in _ (by omega)
                      have hxt : ((k : Int)).tmod 2 = ((k : Int)) % 2 := Int.tmod_eq_emod_of_nonneg (by omega)
                      have hyw2 : IntKind.i64.wrap ((k : Int) - 1 + ((k : Int)) % 2) = (k : Int) - 1 + ((k : Int)) % 2 := IntWalk.i64_in _ (by omega)
                      go_wp2_with (first
                        | (go_at_call 22; refine (HMT.out _ _ H1.out.2).mono ?_; rintro e w10 ⟨rfl, h2⟩; replace H1 := Lib.hid (And.intro (H1.out.1.trans h2.out.1) h2.out.2); clear h2)
                        | (go_at_call 24; refine (HMD.out _ _ H1.out.2).mono ?_; rintro e w11 ⟨rfl, h2⟩; replace H1 := Lib.hid (And.intro (H1.out.1.trans h2.out.1) h2.out.2); clear h2)
                        | (go_at_call 10; refine (HSAN.out _ _ (H1.out.2.perm (star_assoc _ _ _).symm)).mono ?_; rintro e w12 ⟨rfl, h2⟩; replace H1 := Lib.hid (And.intro (H1.out.1.trans h2.out.1) (h2.out.2.perm (star_assoc _ _ _))); clear h2)
                        | fail)
                      all_goals (first
                        | (exfalso; omega)
                        | (go_ret; exact ⟨rfl, H1.out.1.below_of (H1.out.2.perm (star_assoc _ _ _).symm)⟩))
                    · have hne : ((k : Int) + 1 == (k : Int)) = false := by simp; omega
                      have hyw : IntKind.i64.wrap (((k : Int) + 1) - 1) = ((k : Int) + 1) - 1 := IntWalk.i64_in _ (by omega)
                      have hxt : (((k : Int) + 1)).tmod 2 = (((k : Int) + 1)) % 2 := Int.tmod_eq_emod_of_nonneg (by omega)
                      have hyw2 : IntKind.i64.wrap (((k : Int) + 1) - 1 + (((k : Int) + 1)) % 2) = ((k : Int) + 1) - 1 + (((k : Int) + 1)) % 2 := IntWalk.i64_in _ (by omega)
                      go_wp2_with (first
                        | (go_at_call 22; refine (HMT.out _ _ H1.out.2).mono ?_; rintro e w10 ⟨rfl, h2⟩; replace H1 := Lib.hid (And.intro (H1.out.1.trans h2.out.1) h2.out.2); clear h2)
                        | (go_at_call 24; refine (HMD.out _ _ H1.out.2).mono ?_; rintro e w11 ⟨rfl, h2⟩; replace H1 := Lib.hid (And.intro (H1.out.1.trans h2.out.1) h2.out.2); clear h2)
                        | (go_at_call 10; refine (HSAN.out _ _ (H1.out.2.perm (star_assoc _ _ _).symm)).mono ?_; rintro e w12 ⟨rfl, h2⟩; replace H1 := Lib.hid (And.intro (H1.out.1.trans h2.out.1) (h2.out.2.perm (star_assoc _ _ _))); clear h2)
                        | fail)
                      all_goals (first
                        | (exfalso; omega)
                        | (go_ret; exact ⟨rfl, H1.out.1.below_of (H1.out.2.perm (star_assoc _ _ _).symm)⟩))
                  · have HMK := Lib.hid (mk_mark (p := p) hinv.fine.cfg (by omega) hm ((k : Int) + 1) (by omega))
                    have HFL := Lib.hid (mk_flush (p := p) hfe)
                    have HC2 := Lib.hid hc2
                    clear hinv hm hc2 hfe
                    go_wp2_with (first
                      | (go_at_call 23; refine (HMK.out _ _ _ H1.out.2).mono ?_; rintro e w8 ⟨rfl, h2⟩; replace H1 := Lib.hid (And.intro (H1.out.1.trans h2.out.1) h2.out.2); clear h2)
                      | (go_at_call 21; refine (HFL.out _ _ _ H1.out.2).mono ?_; rintro e w9 ⟨rfl, h2⟩; replace H1 := Lib.hid (And.intro (H1.out.1.trans h2.out.1) h2.out.2); clear h2))
                    go_roundw
                    case rel => exact ⟨⟨j + 1, k + 1, S2, by omega, hlt, rfl, rfl, HC2.out, H1.out.1, H1.out.2⟩⟩
                    case measure => simp only [intOf]; omega
                · have hltd : decide ((j : Int) < (n : Int)) = false := decide_eq_false (by omega)
                  have HCO := Lib.hid (hinv.out (by omega) (by omega))
                  have hnlt : ¬ (j : Int) < (n : Int) := by omega
                  clear hinv
                  have HMT := Lib.hid (mk_mount (p := p) (S := S) HPK.out HB.out.2.2.2)
                  obtain ⟨hf, x, y, hmv, hx, hy⟩ := HCO.out picks (mount_wf (shelfAt_wf (H1.out.2.perm (star_left_comm _ _ _))) picks)
                  have HMD := Lib.hid (fun X W h => marked_to (p := p) (F := old w) hf (d := 0) (a := 1) rfl ⟨by decide, by show (0 : Int) < 2; decide⟩ hmv X W h)
                  have hkw : IntKind.i64.wrap ((k : Int) + 1) = (k : Int) + 1 := IntWalk.i64_in _ (by omega)
                  subst hy
                  clear hf hmv HCO
                  rcases hx with rfl | rfl
                  · skip
                    have hyw : IntKind.i64.wrap ((k : Int) - 1) = (k : Int) - 1 := IntWalk.i64_in _ (by omega)
                    have hxt : ((k : Int)).tmod 2 = ((k : Int)) % 2 := Int.tmod_eq_emod_of_nonneg (by omega)
                    have hyw2 : IntKind.i64.wrap ((k : Int) - 1 + ((k : Int)) % 2) = (k : Int) - 1 + ((k : Int)) % 2 := IntWalk.i64_in _ (by omega)
                    go_wp2_with (first
                      | (go_at_call 22; refine (HMT.out _ _ H1.out.2).mono ?_; rintro e w10 ⟨rfl, h2⟩; replace H1 := Lib.hid (And.intro (H1.out.1.trans h2.out.1) h2.out.2); clear h2)
                      | (go_at_call 24; refine (HMD.out _ _ H1.out.2).mono ?_; rintro e w11 ⟨rfl, h2⟩; replace H1 := Lib.hid (And.intro (H1.out.1.trans h2.out.1) h2.out.2); clear h2)
                      | (go_at_call 10; refine (HSAN.out _ _ (H1.out.2.perm (star_assoc _ _ _).symm)).mono ?_; rintro e w12 ⟨rfl, h2⟩; replace H1 := Lib.hid (And.intro (H1.out.1.trans h2.out.1) (h2.out.2.perm (star_assoc _ _ _))); clear h2)
                      | fail)
                    all_goals (first
                      | (exfalso; omega)
                      | (go_ret; exact ⟨rfl, H1.out.1.below_of (H1.out.2.perm (star_assoc _ _ _).symm)⟩))
                  · have hne : ((k : Int) + 1 == (k : Int)) = false := by simp; omega
                    have hyw : IntKind.i64.wrap (((k : Int) + 1) - 1) = ((k : Int) + 1) - 1 := IntWalk.i64_in _ (by omega)
                    have hxt : (((k : Int) + 1)).tmod 2 = (((k : Int) + 1)) % 2 := Int.tmod_eq_emod_of_nonneg (by omega)
                    have hyw2 : IntKind.i64.wrap (((k : Int) + 1) - 1 + (((k : Int) + 1)) % 2) = ((k : Int) + 1) - 1 + (((k : Int) + 1)) % 2 := IntWalk.i64_in _ (by omega)
                    go_wp2_with (first
                      | (go_at_call 22; refine (HMT.out _ _ H1.out.2).mono ?_; rintro e w10 ⟨rfl, h2⟩; replace H1 := Lib.hid (And.intro (H1.out.1.trans h2.out.1) h2.out.2); clear h2)
                      | (go_at_call 24; refine (HMD.out _ _ H1.out.2).mono ?_; rintro e w11 ⟨rfl, h2⟩; replace H1 := Lib.hid (And.intro (H1.out.1.trans h2.out.1) h2.out.2); clear h2)
                      | (go_at_call 10; refine (HSAN.out _ _ (H1.out.2.perm (star_assoc _ _ _).symm)).mono ?_; rintro e w12 ⟨rfl, h2⟩; replace H1 := Lib.hid (And.intro (H1.out.1.trans h2.out.1) (h2.out.2.perm (star_assoc _ _ _))); clear h2)
                      | fail)
                    all_goals (first
                      | (exfalso; omega)
                      | (go_ret; exact ⟨rfl, H1.out.1.below_of (H1.out.2.perm (star_assoc _ _ _).symm)⟩))
        · skip
          clear hpk
          go_enter Try.func9, Try.ntmps9
          go_wp2_with (go_at_call 10; refine (HSAN.out emp _ HW.out).mono ?_; rintro e w1 ⟨rfl, h1⟩)
          go_ret
          exact ⟨rfl, h1.out.1.below_of h1.out.2⟩
      · skip
        clear hpk
        go_enter Try.func9, Try.ntmps9
        go_wp2_with (go_at_call 10; refine (HSAN.out emp _ HW.out).mono ?_; rintro e w1 ⟨rfl, h1⟩)
        go_ret
        exact ⟨rfl, h1.out.1.below_of h1.out.2⟩
    · skip
      clear hpk
      go_enter Try.func9, Try.ntmps9
      go_wp2_with (go_at_call 10; refine (HSAN.out emp _ HW.out).mono ?_; rintro e w1 ⟨rfl, h1⟩)
      go_ret
      exact ⟨rfl, h1.out.1.below_of h1.out.2⟩
  · skip
    clear hpk
    go_enter Try.func9, Try.ntmps9
    go_wp2_with (go_at_call 10; refine (HSAN.out emp _ HW.out).mono ?_; rintro e w1 ⟨rfl, h1⟩)
    go_ret
    exact ⟨rfl, h1.out.1.below_of h1.out.2⟩
end Go.Proofs.Ytbegomjbakidmaa

/- WalMarks: its row. -/
namespace Go.Proofs.Ytbegomjbakidmaa
open Go.ChangeShapes Go.WideShapes Go.ChangeAt Go.RowKit Go.Sl Go.ChangeMaps
set_option maxRecDepth 100000 in
theorem walMarks_lifted (os : Os) (started : os.Started) (H : Type) (enc : TypeId × Value → H) :
    ReturnsInHanded {} Try.checked os 9 .any (Rows.walMarksSpec.pre6 enc Try.prog Try.f9 Rows.walMarksRow.domain false) (Rows.walMarksSpec.post enc Try.prog Try.f9 false true false false) := by
  refine returnsInHanded_of_change (C := Try.checked) law_own started (by kernel_rfl) Try.func9
    (ChangeSpec.witness6 (enc := enc) (C := Try.checked) false ⟨#[], #[.int .i64 0, .int .i64 0, .int .i64 0, .slice none 0 0], []⟩ 8 (by kernel_rfl) (by kernel_rfl) (by kernel_rfl) (by kernel_rfl)) ?_
  intro W base args ds gs before hval0 hW _ _
  have hval : ∀ (j : Nat) t v, Try.f9.params[j]? = some t → args[j]? = some v → Value.okWide Try.prog W .any base t v := hval0
  have hW' := hW
  obtain ⟨p, q, hA0, hV, rfl, _, _⟩ := hW
  have hA : DataW.TrodAll enc Try.prog W 0 (fun _ => true) true Try.f9.params.toList args.toList ds p := hA0
  rw [Try.params9] at hA hval
  obtain ⟨w0, vs0, d0, ds0, p0, q0, hargs, rfl, rfl, h0, r0⟩ := trodAll_cons hA
  obtain ⟨w1, vs1, d1, ds1, p1, q1, rfl, rfl, rfl, h1, r1⟩ := trodAll_cons r0
  obtain ⟨w2, vs2, d2, ds2, p2, q2, rfl, rfl, rfl, h2, r2⟩ := trodAll_cons r1
  obtain ⟨w3, vs3, d3, ds3, p3, q3, rfl, rfl, rfl, h3, r3⟩ := trodAll_cons r2
  obtain ⟨rfl, rfl, rfl⟩ := trodAll_nil r3
  obtain rfl : args = #[w0, w1, w2, w3] := by cases args; simp_all
  obtain ⟨rfl, rfl⟩ := trodVars_none hV
  obtain ⟨b0, rfl, rfl, rfl, wf0⟩ := open_int Try.underlying3 (hval 0 3 w0 rfl rfl) h0
  obtain ⟨b1, rfl, rfl, rfl, wf1⟩ := open_int Try.underlying3 (hval 1 3 w1 rfl rfl) h1
  obtain ⟨b2, rfl, rfl, rfl, wf2⟩ := open_int Try.underlying3 (hval 2 3 w2 rfl rfl) h2
  obtain ⟨v3, l3, e3, s3, m3⟩ := rd_intsC (trod_rd h3)
  obtain ⟨x3, y3, z3, rfl⟩ := okWide_slice Try.underlying49 (hval 3 _ w3 rfl rfl)
  obtain rfl : .slice x3 y3 z3 = v3 := by simpa [Value.cells] using e3
  refine (marks_law _ _ _ _ _ W (by have := bounds_i64 wf2; omega) s3 m3).mono fun e W' ⟨he, hg⟩ => ?_
  subst he
  exact ⟨_, rfl, law_post (by kernel_rfl) rfl (of_decide_eq_true (by kernel_rfl)) rfl hW' hg⟩

theorem walMarks_holds : Rows.WalMarksSaid :=
  OpenClaim.holds_of_wide 9 Try.f9 rfl rfl rfl rfl rfl rfl rfl ⟨rfl, rfl, rfl, rfl, rfl⟩ rfl rfl rfl rfl rfl (by kernel_rfl) Try.func9 (by kernel_rfl)
    (of_decide_eq_true (by kernel_rfl)) (by unfold Func.isWrapper; first | (rw [if_pos (by decide +kernel)]; kernel_rfl) | (rw [if_neg (by decide +kernel)]; exact ⟨rfl, rfl⟩))
    (fun os started H enc _ => walMarks_lifted os started H enc)


end Go.Proofs.Ytbegomjbakidmaa
