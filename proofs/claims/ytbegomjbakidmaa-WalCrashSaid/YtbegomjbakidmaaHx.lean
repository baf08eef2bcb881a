/- WalCrash: for all sizes, records, flushes, fuses and picks the law answers true. -/
import Derived.Test.YtbegomjbakidmaaHy
namespace Go.Proofs.Ytbegomjbakidmaa
open Go.RowKit Go.Sl Go.ChangeMaps

structure CrSt (w : World) (size : Int) (l : List (List UInt8)) (p T : Nat) (v14 v15 v16 : Value) (wr : World) : Prop where
  st : ∃ (i sf : Nat) (S : ShelfM) (X : HProp), i ≤ l.length ∧ v16 = .int .i64 (i : Int) ∧ v15 = .int .i64 (i : Int) ∧ v14 = .int .i64 (sf : Int) ∧ CrI size S (l.take i) sf ∧ Same w wr ∧ Sat wr ((pts T (.cells (tailA (tailK (l.take i) i)) TTail (0, 0)) * X) * (shelfAt SH p S * old w))
theorem cr_fuse {p : Nat} {S : ShelfM} {n : Int} (hn : n < 9223372036854775808) (F : HProp) (W : World) (h : Sat W (shelfAt SH p S * F)) : Calls Try.prog 20 #[.pointer (some ⟨p, 0, none⟩), .int .i64 n] W fun e w' => e = .returned (.tuple #[]) ∧ Hid (Same W w' ∧ Sat w' (shelfAt SH p (S.fuse n) * F)) := fuse_any p S F n W h hn
theorem cr_flush {p : Nat} {S S' : ShelfM} {er : Int} (he : S.flush 0 = (S', er)) (X F : HProp) (W : World) (h : Sat W (X * (shelfAt SH p S * F))) : Calls Try.prog 21 #[.pointer (some ⟨p, 0, none⟩), .int .i64 0] W fun e w' => e = .returned (.int .i64 er) ∧ Hid (Same W w' ∧ Sat w' (X * (shelfAt SH p S' * F))) := by
  have h1 := sflush_any p S (X * F) 0 W (h.perm (star_left_comm _ _ _))
  rw [he] at h1
  exact h1.mono fun _ _ h => ⟨h.1, h.2.out.1, h.2.out.2.perm (star_left_comm _ _ _)⟩
theorem cr_mount {p : Nat} {S : ShelfM} {pv : Value} {picks : List Int} {w : World} (hp : IntsC w pv picks) (hl : picks.length ≤ 9223372036854775807) (X : HProp) (W : World) (h : Sat W (X * (shelfAt SH p S * old w))) : Calls Try.prog 22 #[.pointer (some ⟨p, 0, none⟩), pv] W fun e w' => e = .returned (.tuple #[]) ∧ Hid (Same W w' ∧ Sat w' (X * (shelfAt SH p (S.mount picks) * old w))) :=
  (mount_any p S (X * old w) pv picks W (h.perm (star_left_comm _ _ _)) (fun w' h' => ints_old hp h') hl).mono fun _ _ h => ⟨h.1, h.2.out.1, h.2.out.2.perm (star_left_comm _ _ _)⟩
theorem cr_scan {p : Nat} {size : Int} {S : ShelfM} {rs : List (List UInt8)} {t1 : TailM} (hf : FineS (cfgW size) S) (hl : rs.length ≤ 40) (hsc : ScanL (conL S 0) size.toNat 0 t0 rs t1) (X F : HProp) (W : World) (h : Sat W (X * (shelfAt SH p S * F))) :
    Calls Try.prog 12 #[.pointer (some ⟨p, 0, none⟩), .int .i64 0, .agg (tailA t0)] W fun e w' => ∃ v, e = .returned (.tuple #[v, .agg (tailA t1), .int .i64 0]) ∧ Hid (Same W w' ∧ Sat w' ((ownS v rs * X) * (shelfAt SH p S * F))) := by
  have h3 := scan_fine0 (F := X * F) (d := 0) hf (cfgW_logN' size).symm ⟨by decide, by show (0 : Int) < 2; decide⟩ (t := t0) (by decide) hsc (by omega) (h.perm (star_left_comm _ _ _))
  exact h3.mono fun e w' ⟨v, he, hs⟩ => ⟨v, he, hs.out.1, hs.out.2.perm (by ac_rfl)⟩
def crE (v : Value) (ms : List (List UInt8)) (X Y : HProp) : HProp := (ownS v ms * X) * Y
theorem crE_strs {w : World} {v : Value} {ms : List (List UInt8)} {X Y Z : HProp} (h : Sat w (crE v ms X Y * Z)) : StrsAt w v (ms.map strB) := by
  unfold crE at h
  exact ownS_strs (h.perm (show _ = ownS v ms * (X * (Y * Z)) from by ac_rfl))
theorem crE_old {v : Value} {ms : List (List UInt8)} (X S W : HProp) : (ownS v ms * X) * (S * W) = crE v ms X S * W := by unfold crE; ac_rfl
set_option maxHeartbeats 4000000 in
set_option maxRecDepth 100000 in
theorem crash_law (size fuse : Int) (ao : Option Addr) (cap : Nat) (vf vp : Value) (l : List (List UInt8)) (fl : List Bool) (picks : List Int) (w : World) (hb : -9223372036854775808 ≤ size ∧ size ≤ 9223372036854775807) (hfu : fuse < 9223372036854775808) (hv : StrsAt w (.slice ao l.length cap) (List.map strB l)) (hcap : l.length ≤ cap) (hsz : ∀ r ∈ l, r.length ≤ 9223372036854775807) (hfl : BoolsAt w vf fl) (hpk : IntsC w vp picks) (hpl : picks.length ≤ 9223372036854775807) :
    Calls Try.prog 8 #[.int .i64 size, .slice ao l.length cap, vf, .int .i64 fuse, vp] w fun e w' => e = .returned (.bool true) ∧ Below w.heap.size w w' := by
  obtain ⟨aof, capf, rfl, _⟩ := id hfl
  obtain ⟨aop, capp, rfl, _⟩ := id hpk
  have HSAN := Lib.hid (fun X W (h : Sat W (X * old w)) => sanity_old w W h)
  have HW := Lib.hid (show Sat w (emp * old w) from by rw [emp_star]; exact Sat.old w)
  have HCF := Lib.hid (fun W => config18_w size W)
  have hbad : ∀ er : Int, er ≠ 0 → (∀ W, Sat W (emp * old w) → Calls Try.prog 18 #[.agg (cfgA (cfgAny size))] W fun e w' => e = .returned (.tuple #[.pointer none, .int .i64 er]) ∧ Hid (Same W w' ∧ Sat w' (emp * old w))) →
      Calls Try.prog 8 #[.int .i64 size, .slice ao l.length cap, .slice aof fl.length capf, .int .i64 fuse, .slice aop picks.length capp] w fun e w' => e = .returned (.bool true) ∧ Below w.heap.size w w' := by
    intro er her hnew
    have HNEW := Lib.hid hnew
    clear hnew
    have her' : (er != 0) = true := by simpa [bne] using her
    clear hv hsz hfl hpk
    go_enter Try.func8, Try.ntmps8
    go_wp2_with (first
      | (go_at_call 19; refine (HCF.out _).mono ?_; rintro e w1 ⟨rfl, hb1⟩)
      | (go_at_call 18; refine (HNEW.out _ (HW.out.below hb1)).mono ?_; rintro e w2 ⟨rfl, h2⟩)
      | (go_at_call 10; refine (HSAN.out _ _ h2.out.2).mono ?_; rintro e w3 ⟨rfl, h3⟩))
    go_ret
    exact ⟨rfl, ((((Same.refl w).below hb1).trans h2.out.1).trans h3.out.1).below_of h3.out.2⟩
  cases hok : (cfgAny size).ok
  · exact hbad 1 (by decide) fun W h => snew_bad _ _ W h hok
  · by_cases hs : (cfgAny size).sectors ≤ 65536
    · have hwf := ok_wf hok hs
      have HNEW := Lib.hid (fun W (h : Sat W (old w)) => snew_ok (cfgAny size) (old w) W h hok hs)
      clear hbad hok hs
      cases d1 : decide (40 < size)
      · cases d2 : decide ((40 : Int) < (l.length : Int))
        · skip
          have hs2 : size ≤ 40 := by have := of_decide_eq_false d1; omega
          have hll : l.length ≤ 40 := by have := of_decide_eq_false d2; omega
          have hce := size_small hb.1 hb.2 hwf hs2
          rw [hce] at HNEW HCF hwf
          have HCR := Lib.hid (cri_new hwf hfu)
          have HB := Lib.hid (And.intro hs2 (And.intro hcap (And.intro hll (And.intro hsz (And.intro hfu hpl)))))
          have HV := Lib.hid hv
          have HFB := Lib.hid hfl
          have HPK := Lib.hid hpk
          clear hs2 hll hce hwf hb hv hsz hcap hfl hpk hpl hfu
          obtain ⟨ti, hti, hz0, hts, hz2⟩ := info_parts infoTail4
          obtain ⟨si, hsi, sz0, sts, sz2⟩ := info_parts infoStr3
          have HTI := Lib.hid (And.intro hti hts)
          have HSI := Lib.hid (And.intro hsi sts)
          clear hti hz0 hts hz2 hsi sz0 sts sz2
          go_enter Try.func8, Try.ntmps8
          go_upto_region 5 with (first
            | (go_at_call 19; refine (HCF.out _).mono ?_; rintro e w1 ⟨rfl, hb1⟩)
            | (go_at_call 18; refine (HNEW.out _ ((Sat.old w).below hb1)).mono ?_; rintro e w2 ⟨p, rfl, h2⟩)
            | (go_at_call 20; refine (cr_fuse HB.out.2.2.2.2.1 _ _ h2.out.2).mono ?_; rintro e w3 ⟨rfl, h3⟩))
          have H1 := Lib.hid (And.intro ((((Same.refl w).below hb1).trans h2.out.1).trans h3.out.1) h3.out.2)
          clear h2 h3 hb1
          go_wp2
          have hst : CrSt w size l p w3.heap.size (.int .i64 0) (.int .i64 0) (.int .i64 0) (w3.alloc (.cells #[.int .i64 0, .int .i64 0, .int .i64 0, .int .i64 0] TTail)) :=
            ⟨⟨0, 0, _, emp, Nat.zero_le _, rfl, rfl, rfl, HCR.out, H1.out.1.alloc _, (H1.out.2.alloc (.cells #[.int .i64 0, .int .i64 0, .int .i64 0, .int .i64 0] TTail)).perm (by rw [star_emp]; rfl)⟩⟩
          have HST := Lib.hid hst
          clear hst H1 HCR
          generalize w3.alloc (.cells #[.int .i64 0, .int .i64 0, .int .i64 0, .int .i64 0] TTail) = w4 at HST ⊢
          generalize w3.heap.size = T at HST ⊢
          go_loopw [14, 15, 16] (fun v14 v15 v16 wr => CrSt w size l p T v14 v15 v16 wr) (fun _ _ v16 _ => l.length + 1 - (intOf v16).toNat)
          case atStart => exact HST.out
          case round =>
            obtain ⟨i, sf, S, X, hi, rfl, rfl, rfl, hinv, hsm, hs⟩ := hrel.st
            clear hrel HST
            have hlen : (l.take i).length = i := by rw [List.length_take]; omega
            have hsf := hinv.len
            rw [hlen] at hsf
            have hll := HB.out.2.2.1
            have H1 := Lib.hid (And.intro hsm hs)
            clear hsm hs
            have hi40 : (i : Int) ≤ 40 := by omega
            have hwr : IntKind.i64.wrap (i : Int) = (i : Int) := wrap_nat i (by omega)
            have hwr1 : IntKind.i64.wrap ((i : Int) + 1) = (i : Int) + 1 := wrap_nat (i + 1) (by omega)
            by_cases hlt : i < l.length
            · have hltd : decide ((i : Int) < (l.length : Int)) = true := decide_eq_true (by omega)
              obtain ⟨r, hr⟩ : ∃ r, l[i]? = some r := ⟨_, List.getElem?_eq_getElem hlt⟩
              obtain ⟨b0, off, hao, hcl⟩ := str_cell HV.out hr
              subst hao
              have HCL := Lib.hid hcl
              have HLT := Lib.hid hlt
              have hrl := HB.out.2.2.2.1 r (List.mem_of_getElem? hr)
              have HTAKE := Lib.hid (show l.take (i + 1) = l.take i ++ [r] from by rw [List.take_add_one, hr]; rfl)
              clear hcl hlt hr
              by_cases hz : appErr (cfgW size) 0 (tailK (l.take i) i) ⟨1, (i : Int) + 1⟩ r = 0
              · have hia := hinv.app (r := r) HB.out.1 (by rw [hlen]; omega) (by rw [hlen]; exact hz)
                rw [hlen] at hia
                rcases hia with ⟨S', ⟨ha, hci⟩ | ⟨ha, hco⟩⟩
                · have HAP := Lib.hid (fun (X : HProp) (W : World) (h : Sat W (X * (shelfAt SH p S * old w))) => app_to ha hrl X W h)
                  have HCI := Lib.hid hci
                  have hlen1 : (l.take i ++ [r]).length = i + 1 := by rw [List.length_append, hlen]; rfl
                  have HL1 := Lib.hid hlen1
                  clear hz ha hci hrl hinv hlen hlen1
                  go_upto_region 11 with (fail)
                  replace H1 := Lib.hid (And.intro H1.out.1.drew H1.out.2.drew)
                  have hS0 := And.intro (t_range ((H1.out.2).perm (star_assoc _ _ _))) (HCL.out _ (H1.out.2).right.right)
                  refine reg_begin (fun w' => w'.rangeAt T 0 (tailA (tailK (l.take i) i)).toList ∧ w'.cell? ⟨b0, off + i * 1, none⟩ = some (.string (strB r))) (by kernel_rfl) ?_
                  generalize wr.drew = w5 at H1 hS0 ⊢
                  apply reg_cutT (K := fun g w' => Hid (Same w w' ∧ Sat w' (pts g (.cells (tailA (tailK (l.take i ++ [r]) (i + 1))) TTail (0, 0)) * ((pts T (.cells (tailA (tailK (l.take i) i)) TTail (0, 0)) * X) * (shelfAt SH p S' * old w)))))
                  · skip
                    (apply reg_take 0 rfl rfl (by decide +kernel) rfl); (rintro w' ⟨h1, h2⟩; go_simp; rfl); exact hS0; simp only [List.setIfInBounds_toArray, List.set_cons_succ, List.set_cons_zero]
                    refine reg_take 1 (v := .agg (tailA (tailK (l.take i) i))) rfl rfl (by decide +kernel) rfl (fun w' h => exec_load_tail rfl rfl h.1) hS0 ?_; simp only [List.setIfInBounds_toArray, List.set_cons_succ, List.set_cons_zero]
                    (apply reg_take 2 rfl rfl (by decide +kernel) rfl); (rintro w' ⟨h1, h2⟩; go_simp; rfl); exact hS0; simp only [List.setIfInBounds_toArray, List.set_cons_succ, List.set_cons_zero]
                    (apply reg_take 3 rfl rfl (by decide +kernel) rfl); (rintro w' ⟨h1, h2⟩; go_simp; rfl); exact hS0; simp only [List.setIfInBounds_toArray, List.set_cons_succ, List.set_cons_zero]
                    (apply reg_take 4 rfl rfl (by decide +kernel) rfl); (rintro w' ⟨h1, h2⟩; go_simp; rfl); exact hS0; simp only [List.setIfInBounds_toArray, List.set_cons_succ, List.set_cons_zero]
                    (apply reg_take 5 rfl rfl (by decide +kernel) rfl); (rintro w' ⟨h1, h2⟩; go_simp; rfl); exact hS0; simp only [List.setIfInBounds_toArray, List.set_cons_succ, List.set_cons_zero]
                    (apply reg_take 6 rfl rfl (by decide +kernel) rfl); (rintro w' ⟨h1, h2⟩; go_simp; rfl); exact hS0; simp only [List.setIfInBounds_toArray, List.set_cons_succ, List.set_cons_zero]
                    refine reg_take 7 (v := .pointer (some ⟨b0, off + i * 1, none⟩)) rfl rfl (by decide +kernel) rfl (fun w' h => exec_index_slice rfl rfl rfl Try.underlying22 HSI.out.1 HSI.out.2 HLT.out) hS0 ?_; simp only [List.setIfInBounds_toArray, List.set_cons_succ, List.set_cons_zero]
                    refine reg_take 8 (v := .string (strB r)) rfl rfl (by decide +kernel) rfl (fun w' h => exec_load_cell rfl rfl Try.underlying9 rfl h.2) hS0 ?_; simp only [List.setIfInBounds_toArray, List.set_cons_succ, List.set_cons_zero]
                    refine reg_fork 9 13 (by decide +kernel) ?_ ?_
                    · refine rstep_call rfl rfl (by decide +kernel) rfl (f := 15) (args := #[.pointer (some ⟨p, 0, none⟩), .int .i64 0, .agg (tailA (tailK (l.take i) i)), .agg (genA ⟨1, (i : Int) + 1⟩), .string (strB r)]) (R := fun v w' => v = .tuple #[.agg (tailA (tailK (l.take i ++ [r]) (i + 1))), .int .i64 0] ∧ Hid (Same w5 w' ∧ Sat w' ((pts T (.cells (tailA (tailK (l.take i) i)) TTail (0, 0)) * X) * (shelfAt SH p S' * old w)))) (by kernel_rfl) ((HAP.out _ w5 H1.out.2).mono fun e w' h => ⟨_, h.1, rfl, h.2.out.1, h.2.out.2⟩) ?_
                      rintro _ w6 ⟨rfl, hx⟩
                      replace H1 := Lib.hid (And.intro (H1.out.1.trans hx.out.1) hx.out.2)
                      replace hS0 := And.intro (t_range ((H1.out.2).perm (star_assoc _ _ _))) (HCL.out _ (H1.out.2).right.right)
                      clear hx
                      refine ⟨hS0, ?_⟩
                      simp only [List.setIfInBounds_toArray, List.set_cons_succ, List.set_cons_zero]
                      (apply reg_take 10 rfl rfl (by decide +kernel) rfl); (rintro w' ⟨h1, h2⟩; go_simp; rfl); exact hS0; simp only [List.setIfInBounds_toArray, List.set_cons_succ, List.set_cons_zero]
                      (apply reg_take 11 rfl rfl (by decide +kernel) rfl); (rintro w' ⟨h1, h2⟩; go_simp; rfl); exact hS0; simp only [List.setIfInBounds_toArray, List.set_cons_succ, List.set_cons_zero]
                      (apply reg_take 12 rfl rfl (by decide +kernel) rfl); (rintro w' ⟨h1, h2⟩; go_simp; rfl); exact hS0; simp only [List.setIfInBounds_toArray, List.set_cons_succ, List.set_cons_zero]
                      refine reg_run 13 (.pointer (some ⟨w6.heap.size, 0, none⟩)) (w6.alloc (.cells zTail TTail)) rfl rfl (by decide +kernel) rfl (exec_alloc_zero rfl _ (zeroTail _)) (And.intro (t_range (((H1.out.2.alloc (.cells zTail TTail)).right).perm (star_assoc _ _ _))) (HCL.out _ ((H1.out.2.alloc (.cells zTail TTail)).right).right.right)) ?_; simp only [List.setIfInBounds_toArray, List.set_cons_succ, List.set_cons_zero]
                      replace H1 := Lib.hid (And.intro (H1.out.1.alloc (.cells zTail TTail)) (H1.out.2.alloc (.cells zTail TTail)))
                      generalize w6.alloc (.cells zTail TTail) = w7 at H1 ⊢
                      generalize w6.heap.size = g at H1 ⊢
                      replace hS0 := And.intro (t_range ((H1.out.2.right).perm (star_assoc _ _ _))) (HCL.out _ (H1.out.2.right).right.right)
                      refine reg_store_blk 14 (T := TTail) (old := zTail) (new := tailA (tailK (l.take i ++ [r]) (i + 1))) rfl rfl (by decide +kernel) rfl rfl rfl rfl H1.out.2 (infoTail rfl) rfl (by simp [Value.oneCell']) ?_
                      intro w9 h9
                      replace H1 := Lib.hid (And.intro (H1.out.1.trans h9.out.1) h9.out.2)
                      replace hS0 := And.intro (t_range ((H1.out.2.right).perm (star_assoc _ _ _))) (HCL.out _ (H1.out.2.right).right.right)
                      clear h9
                      refine ⟨hS0, ?_⟩
                      (apply reg_take 15 rfl rfl (by decide +kernel) rfl); (rintro w' ⟨h1, h2⟩; go_simp; rfl); exact hS0; simp only [List.setIfInBounds_toArray, List.set_cons_succ, List.set_cons_zero]
                      refine reg_done (by decide +kernel) ?_
                      exact ⟨g, rfl, H1⟩
                    · refine rstep_run (.pointer (some ⟨w5.heap.size, 0, none⟩)) (w5.alloc (.cells zTail TTail)) rfl rfl (by decide +kernel) rfl (exec_alloc_zero rfl _ (zeroTail _)) (And.intro (t_range (((H1.out.2.alloc (.cells zTail TTail)).right).perm (star_assoc _ _ _))) (HCL.out _ ((H1.out.2.alloc (.cells zTail TTail)).right).right.right)) ?_; simp only [List.setIfInBounds_toArray, List.set_cons_succ, List.set_cons_zero]
                      replace H1 := Lib.hid (And.intro (H1.out.1.alloc (.cells zTail TTail)) (H1.out.2.alloc (.cells zTail TTail)))
                      generalize w5.alloc (.cells zTail TTail) = w6 at H1 ⊢
                      generalize w5.heap.size = g at H1 ⊢
                      replace hS0 := And.intro (t_range ((H1.out.2.right).perm (star_assoc _ _ _))) (HCL.out _ (H1.out.2.right).right.right)
                      refine reg_call 9 rfl rfl (by decide +kernel) rfl (f := 15) (args := #[.pointer (some ⟨p, 0, none⟩), .int .i64 0, .agg (tailA (tailK (l.take i) i)), .agg (genA ⟨1, (i : Int) + 1⟩), .string (strB r)]) (R := fun v w' => v = .tuple #[.agg (tailA (tailK (l.take i ++ [r]) (i + 1))), .int .i64 0] ∧ Hid (Same w6 w' ∧ Sat w' (pts g (.cells zTail TTail (0, 0)) * ((pts T (.cells (tailA (tailK (l.take i) i)) TTail (0, 0)) * X) * (shelfAt SH p S' * old w))))) (by kernel_rfl) ((HAP.out _ w6 (H1.out.2.perm (star_assoc _ _ _).symm)).mono fun e w' h => ⟨_, h.1, rfl, h.2.out.1, h.2.out.2.perm (star_assoc _ _ _)⟩) ?_
                      rintro _ w7 ⟨rfl, hx⟩
                      replace H1 := Lib.hid (And.intro (H1.out.1.trans hx.out.1) hx.out.2)
                      replace hS0 := And.intro (t_range ((H1.out.2.right).perm (star_assoc _ _ _))) (HCL.out _ (H1.out.2.right).right.right)
                      clear hx
                      refine ⟨hS0, ?_⟩
                      simp only [List.setIfInBounds_toArray, List.set_cons_succ, List.set_cons_zero]
                      (apply reg_take 10 rfl rfl (by decide +kernel) rfl); (rintro w' ⟨h1, h2⟩; go_simp; rfl); exact hS0; simp only [List.setIfInBounds_toArray, List.set_cons_succ, List.set_cons_zero]
                      (apply reg_take 11 rfl rfl (by decide +kernel) rfl); (rintro w' ⟨h1, h2⟩; go_simp; rfl); exact hS0; simp only [List.setIfInBounds_toArray, List.set_cons_succ, List.set_cons_zero]
                      (apply reg_take 12 rfl rfl (by decide +kernel) rfl); (rintro w' ⟨h1, h2⟩; go_simp; rfl); exact hS0; simp only [List.setIfInBounds_toArray, List.set_cons_succ, List.set_cons_zero]
                      refine reg_store_blk 14 (T := TTail) (old := zTail) (new := tailA (tailK (l.take i ++ [r]) (i + 1))) rfl rfl (by decide +kernel) rfl rfl rfl rfl H1.out.2 (infoTail rfl) rfl (by simp [Value.oneCell']) ?_
                      intro w9 h9
                      replace H1 := Lib.hid (And.intro (H1.out.1.trans h9.out.1) h9.out.2)
                      replace hS0 := And.intro (t_range ((H1.out.2.right).perm (star_assoc _ _ _))) (HCL.out _ (H1.out.2.right).right.right)
                      clear h9
                      refine ⟨hS0, ?_⟩
                      (apply reg_take 15 rfl rfl (by decide +kernel) rfl); (rintro w' ⟨h1, h2⟩; go_simp; rfl); exact hS0; simp only [List.setIfInBounds_toArray, List.set_cons_succ, List.set_cons_zero]
                      refine reg_done (by decide +kernel) ?_
                      exact ⟨g, rfl, H1⟩
                  intro g w6 H1
                  try dsimp only
                  clear hS0
                  obtain ⟨g0, g1, g2, g3, lg⟩ := t4 H1.out.2
                  have hp1 := H1.out.2.perm (show _ = pts T (.cells (tailA (tailK (l.take i) i)) TTail (0, 0)) * (pts g (.cells (tailA (tailK (l.take i ++ [r]) (i + 1))) TTail (0, 0)) * (X * (shelfAt SH p S' * old w))) from by ac_rfl)
                  obtain ⟨f0, f1, f2, f3⟩ := t_thawed hp1
                  obtain ⟨t0, t1, t2, t3, lt⟩ := t4 hp1
                  have HP1 := Lib.hid hp1
                  clear hp1
                  have hlt' := HLT.out
                  go_upto_region 17 with (fail)
                  obtain ⟨hm', hs'⟩ := t_put H1.out.1 HP1.out (tailK (l.take i ++ [r]) (i + 1)).next (tailK (l.take i ++ [r]) (i + 1)).number (tailK (l.take i ++ [r]) (i + 1)).gen.epoch (tailK (l.take i ++ [r]) (i + 1)).gen.count
                  replace H1 := Lib.hid (And.intro hm' (hs'.perm (show _ = (pts T (.cells (tailA (tailK (l.take i ++ [r]) (i + 1))) TTail (0, 0)) * (pts g (.cells (tailA (tailK (l.take i ++ [r]) (i + 1))) TTail (0, 0)) * X)) * (shelfAt SH p S' * old w) from by ac_rfl)))
                  clear hm' hs' g0 g1 g2 g3 lg f0 f1 f2 f3 t0 t1 t2 t3 lt HP1
                  generalize (((w6.setCell ⟨T, 0, none⟩ (.int .i64 (tailK (l.take i ++ [r]) (i + 1)).next)).setCell ⟨T, 1, none⟩ (.int .i64 (tailK (l.take i ++ [r]) (i + 1)).number)).setCell ⟨T, 2, none⟩ (.int .i64 (tailK (l.take i ++ [r]) (i + 1)).gen.epoch)).setCell ⟨T, 3, none⟩ (.int .i64 (tailK (l.take i ++ [r]) (i + 1)).gen.count) = w7 at H1 ⊢
                  have hci := HCI.out
                  have hlen1 := HL1.out
                  have hbo := HFB.out.old H1.out.2.right
                  obtain ⟨ab, cb, hab, hb0⟩ := hbo
                  cases hab
                  by_cases hfi : i < fl.length
                  · have hfd : decide ((i : Int) < (fl.length : Int)) = true := decide_eq_true (by omega)
                    obtain ⟨fb, hfb⟩ : ∃ b, fl[i]? = some b := ⟨_, List.getElem?_eq_getElem hfi⟩
                    obtain ⟨bb, offb, rfl, hcb⟩ := hb0 (by rintro rfl; simp at hfi)
                    have hcb := hcb i fb hfb
                    rw [Nat.mul_one] at hcb
                    clear hb0 hfb
                    cases fb
                    · clear hci hlen1
                      go_wp2
                      go_roundw
                      case rel => exact ⟨⟨i + 1, sf, S', _, hlt', rfl, rfl, rfl, by rw [HTAKE.out]; exact HCI.out, H1.out.1, by rw [HTAKE.out]; exact H1.out.2⟩⟩
                      case measure => simp only [intOf]; omega
                    · skip
                      rcases hci.flush HB.out.1 (by rw [hlen1]; omega) with ⟨S2, ⟨hfe, hc2⟩ | ⟨hfe, hco⟩⟩
                      · have HFL := Lib.hid (cr_flush (p := p) hfe)
                        rw [hlen1] at hc2
                        have HC2 := Lib.hid hc2
                        clear hci hfe hc2 hlen1
                        go_wp2_with (go_at_call 21; refine (HFL.out _ _ _ H1.out.2).mono ?_; rintro e w9 ⟨rfl, h2⟩; replace H1 := Lib.hid (And.intro (H1.out.1.trans h2.out.1) h2.out.2); clear h2)
                        go_roundw
                        case rel => exact ⟨⟨i + 1, i + 1, S2, _, hlt', rfl, rfl, rfl, by rw [HTAKE.out]; exact HC2.out, H1.out.1, by rw [HTAKE.out]; exact H1.out.2⟩⟩
                        case measure => simp only [intOf]; omega
                      · have HFL := Lib.hid (cr_flush (p := p) hfe)
                        have HCO := Lib.hid hco
                        rw [← HTAKE.out] at HCO
                        clear hci hfe hco hlen1
                        go_upto_region 20 with (go_at_call 21; refine (HFL.out _ _ _ H1.out.2).mono ?_; rintro e w9 ⟨rfl, h2⟩; replace H1 := Lib.hid (And.intro (H1.out.1.trans h2.out.1) h2.out.2); clear h2)
                        have HMT := Lib.hid (cr_mount (p := p) (S := S2) HPK.out HB.out.2.2.2.2.2)
                        have hll9 := HB.out.2.2.1
                        have hcap9 := HB.out.2.1
                        go_wp2_with (first
                          | (go_at_call 22; refine (HMT.out _ _ H1.out.2).mono ?_; rintro e w10 ⟨rfl, h2⟩; replace H1 := Lib.hid (And.intro (H1.out.1.trans h2.out.1) h2.out.2); clear h2
                             obtain ⟨hf, m, hm1, hm2, hsc⟩ := HCO.out picks (shelfAt_wf (H1.out.2.perm (star_left_comm _ _ _)))
                             have hJ : (l.take (i + 1)).length = (i + 1) := by rw [List.length_take]; omega
                             rw [hJ] at hm2
                             have htk : (l.take (i + 1)).take m = l.take m := by rw [List.take_take, Nat.min_eq_left hm2]
                             rw [htk] at hsc
                             have hmlen : (l.take m).length = m := by rw [List.length_take]; omega
                             have HSC := Lib.hid (cr_scan (p := p) hf (by rw [hmlen]; omega) hsc)
                             have hg1 : decide ((sf : Int) ≤ (m : Int)) = true := decide_eq_true (by omega)
                             have hg2 : decide ((m : Int) ≤ ((i : Int) + 1)) = true := decide_eq_true (by omega)
                             have hmc : m ≤ cap := by omega
                             have hsm9 : (sf : Int) ≤ (m : Int) ∧ (m : Int) ≤ ((i : Int) + 1) := by omega
                             have HML := Lib.hid (show m ≤ l.length by omega)
                             have HMM := Lib.hid hmlen
                             have hwm : IntKind.i64.wrap (m : Int) = (m : Int) := wrap_nat m (by omega)
                             clear hf hsc hm1 hm2 hJ htk HCO HMT hmlen hll9 hcap9)
                          | (go_at_call 12; refine (HSC.out _ _ _ H1.out.2).mono ?_; rintro e w11 ⟨vo, rfl, h2⟩; replace H1 := Lib.hid (And.intro (H1.out.1.trans h2.out.1) (h2.out.2.perm (crE_old _ _ _))); clear h2
                             obtain ⟨ao19, cp19, rfl⟩ := ownAt_slice (show Sat _ (ownS vo (l.take m) * _) from H1.out.2.left.left)
                             rw [HMM.out] at H1 ⊢)
                          | (go_at_call 10; refine (HSAN.out _ _ (H1.out.2.allocKeep _)).mono ?_; rintro e w13 ⟨rfl, hx⟩; replace H1 := Lib.hid (And.intro ((H1.out.1.alloc _).trans hx.out.1) hx.out.2); clear hx)
                          | (go_at_call 14; (first
                              | (refine (same18_any _ _ ((l.take m).map strB) ((l.take m).map strB) _ (crE_strs H1.out.2) (by rw [List.map_take]; exact StrsAt.takeAt (HV.out.old H1.out.2) (by rw [List.length_map]; exact HML.out)) (by rw [List.length_map, HMM.out]; have := HML.out; have := HB.out.2.2.1; omega)).mono ?_)
                              | (refine (same18_any _ _ ((l.take m).map strB) ((l.take m).map strB) _ (crE_strs H1.out.2) (by rw [List.map_take]; exact StrsAt.cut (HV.out.old H1.out.2) (by rw [List.length_map]; exact HML.out)) (by rw [List.length_map, HMM.out]; have := HML.out; have := HB.out.2.2.1; omega)).mono ?_)); rintro e w14 ⟨rfl, hx⟩; replace H1 := Lib.hid (And.intro (H1.out.1.below hx) (H1.out.2.below hx)); clear hx)
                          | fail)
                        all_goals (first
                          | (exfalso; omega)
                          | (go_ret; exact ⟨rfl, H1.out.1.below_of H1.out.2⟩))
                  · have hfd : decide ((i : Int) < (fl.length : Int)) = false := decide_eq_false (by omega)
                    clear hb0 hci hlen1
                    go_wp2
                    go_roundw
                    case rel => exact ⟨⟨i + 1, sf, S', _, hlt', rfl, rfl, rfl, by rw [HTAKE.out]; exact HCI.out, H1.out.1, by rw [HTAKE.out]; exact H1.out.2⟩⟩
                    case measure => simp only [intOf]; omega
                · have HAP := Lib.hid (fun (X : HProp) (W : World) (h : Sat W (X * (shelfAt SH p S * old w))) => app_to ha hrl X W h)
                  have HCO := Lib.hid hco
                  clear hz ha hco hrl hinv hlen
                  go_upto_region 11 with (fail)
                  replace H1 := Lib.hid (And.intro H1.out.1.drew H1.out.2.drew)
                  have hS0 := And.intro (t_range ((H1.out.2).perm (star_assoc _ _ _))) (HCL.out _ (H1.out.2).right.right)
                  refine reg_begin (fun w' => w'.rangeAt T 0 (tailA (tailK (l.take i) i)).toList ∧ w'.cell? ⟨b0, off + i * 1, none⟩ = some (.string (strB r))) (by kernel_rfl) ?_
                  generalize wr.drew = w5 at H1 hS0 ⊢
                  apply reg_cutT (K := fun g w' => Hid (Same w w' ∧ Sat w' (pts g (.cells (tailA noTail) TTail (0, 0)) * ((pts T (.cells (tailA (tailK (l.take i) i)) TTail (0, 0)) * X) * (shelfAt SH p S' * old w)))))
                  · skip
                    (apply reg_take 0 rfl rfl (by decide +kernel) rfl); (rintro w' ⟨h1, h2⟩; go_simp; rfl); exact hS0; simp only [List.setIfInBounds_toArray, List.set_cons_succ, List.set_cons_zero]
                    refine reg_take 1 (v := .agg (tailA (tailK (l.take i) i))) rfl rfl (by decide +kernel) rfl (fun w' h => exec_load_tail rfl rfl h.1) hS0 ?_; simp only [List.setIfInBounds_toArray, List.set_cons_succ, List.set_cons_zero]
                    (apply reg_take 2 rfl rfl (by decide +kernel) rfl); (rintro w' ⟨h1, h2⟩; go_simp; rfl); exact hS0; simp only [List.setIfInBounds_toArray, List.set_cons_succ, List.set_cons_zero]
                    (apply reg_take 3 rfl rfl (by decide +kernel) rfl); (rintro w' ⟨h1, h2⟩; go_simp; rfl); exact hS0; simp only [List.setIfInBounds_toArray, List.set_cons_succ, List.set_cons_zero]
                    (apply reg_take 4 rfl rfl (by decide +kernel) rfl); (rintro w' ⟨h1, h2⟩; go_simp; rfl); exact hS0; simp only [List.setIfInBounds_toArray, List.set_cons_succ, List.set_cons_zero]
                    (apply reg_take 5 rfl rfl (by decide +kernel) rfl); (rintro w' ⟨h1, h2⟩; go_simp; rfl); exact hS0; simp only [List.setIfInBounds_toArray, List.set_cons_succ, List.set_cons_zero]
                    (apply reg_take 6 rfl rfl (by decide +kernel) rfl); (rintro w' ⟨h1, h2⟩; go_simp; rfl); exact hS0; simp only [List.setIfInBounds_toArray, List.set_cons_succ, List.set_cons_zero]
                    refine reg_take 7 (v := .pointer (some ⟨b0, off + i * 1, none⟩)) rfl rfl (by decide +kernel) rfl (fun w' h => exec_index_slice rfl rfl rfl Try.underlying22 HSI.out.1 HSI.out.2 HLT.out) hS0 ?_; simp only [List.setIfInBounds_toArray, List.set_cons_succ, List.set_cons_zero]
                    refine reg_take 8 (v := .string (strB r)) rfl rfl (by decide +kernel) rfl (fun w' h => exec_load_cell rfl rfl Try.underlying9 rfl h.2) hS0 ?_; simp only [List.setIfInBounds_toArray, List.set_cons_succ, List.set_cons_zero]
                    refine reg_fork 9 13 (by decide +kernel) ?_ ?_
                    · refine rstep_call rfl rfl (by decide +kernel) rfl (f := 15) (args := #[.pointer (some ⟨p, 0, none⟩), .int .i64 0, .agg (tailA (tailK (l.take i) i)), .agg (genA ⟨1, (i : Int) + 1⟩), .string (strB r)]) (R := fun v w' => v = .tuple #[.agg (tailA noTail), .int .i64 14] ∧ Hid (Same w5 w' ∧ Sat w' ((pts T (.cells (tailA (tailK (l.take i) i)) TTail (0, 0)) * X) * (shelfAt SH p S' * old w)))) (by kernel_rfl) ((HAP.out _ w5 H1.out.2).mono fun e w' h => ⟨_, h.1, rfl, h.2.out.1, h.2.out.2⟩) ?_
                      rintro _ w6 ⟨rfl, hx⟩
                      replace H1 := Lib.hid (And.intro (H1.out.1.trans hx.out.1) hx.out.2)
                      replace hS0 := And.intro (t_range ((H1.out.2).perm (star_assoc _ _ _))) (HCL.out _ (H1.out.2).right.right)
                      clear hx
                      refine ⟨hS0, ?_⟩
                      simp only [List.setIfInBounds_toArray, List.set_cons_succ, List.set_cons_zero]
                      (apply reg_take 10 rfl rfl (by decide +kernel) rfl); (rintro w' ⟨h1, h2⟩; go_simp; rfl); exact hS0; simp only [List.setIfInBounds_toArray, List.set_cons_succ, List.set_cons_zero]
                      (apply reg_take 11 rfl rfl (by decide +kernel) rfl); (rintro w' ⟨h1, h2⟩; go_simp; rfl); exact hS0; simp only [List.setIfInBounds_toArray, List.set_cons_succ, List.set_cons_zero]
                      (apply reg_take 12 rfl rfl (by decide +kernel) rfl); (rintro w' ⟨h1, h2⟩; go_simp; rfl); exact hS0; simp only [List.setIfInBounds_toArray, List.set_cons_succ, List.set_cons_zero]
                      refine reg_run 13 (.pointer (some ⟨w6.heap.size, 0, none⟩)) (w6.alloc (.cells zTail TTail)) rfl rfl (by decide +kernel) rfl (exec_alloc_zero rfl _ (zeroTail _)) (And.intro (t_range (((H1.out.2.alloc (.cells zTail TTail)).right).perm (star_assoc _ _ _))) (HCL.out _ ((H1.out.2.alloc (.cells zTail TTail)).right).right.right)) ?_; simp only [List.setIfInBounds_toArray, List.set_cons_succ, List.set_cons_zero]
                      replace H1 := Lib.hid (And.intro (H1.out.1.alloc (.cells zTail TTail)) (H1.out.2.alloc (.cells zTail TTail)))
                      generalize w6.alloc (.cells zTail TTail) = w7 at H1 ⊢
                      generalize w6.heap.size = g at H1 ⊢
                      replace hS0 := And.intro (t_range ((H1.out.2.right).perm (star_assoc _ _ _))) (HCL.out _ (H1.out.2.right).right.right)
                      refine reg_store_blk 14 (T := TTail) (old := zTail) (new := tailA noTail) rfl rfl (by decide +kernel) rfl rfl rfl rfl H1.out.2 (infoTail rfl) rfl (by simp [Value.oneCell']) ?_
                      intro w9 h9
                      replace H1 := Lib.hid (And.intro (H1.out.1.trans h9.out.1) h9.out.2)
                      replace hS0 := And.intro (t_range ((H1.out.2.right).perm (star_assoc _ _ _))) (HCL.out _ (H1.out.2.right).right.right)
                      clear h9
                      refine ⟨hS0, ?_⟩
                      (apply reg_take 15 rfl rfl (by decide +kernel) rfl); (rintro w' ⟨h1, h2⟩; go_simp; rfl); exact hS0; simp only [List.setIfInBounds_toArray, List.set_cons_succ, List.set_cons_zero]
                      refine reg_done (by decide +kernel) ?_
                      exact ⟨g, rfl, H1⟩
                    · refine rstep_run (.pointer (some ⟨w5.heap.size, 0, none⟩)) (w5.alloc (.cells zTail TTail)) rfl rfl (by decide +kernel) rfl (exec_alloc_zero rfl _ (zeroTail _)) (And.intro (t_range (((H1.out.2.alloc (.cells zTail TTail)).right).perm (star_assoc _ _ _))) (HCL.out _ ((H1.out.2.alloc (.cells zTail TTail)).right).right.right)) ?_; simp only [List.setIfInBounds_toArray, List.set_cons_succ, List.set_cons_zero]
                      replace H1 := Lib.hid (And.intro (H1.out.1.alloc (.cells zTail TTail)) (H1.out.2.alloc (.cells zTail TTail)))
                      generalize w5.alloc (.cells zTail TTail) = w6 at H1 ⊢
                      generalize w5.heap.size = g at H1 ⊢
                      replace hS0 := And.intro (t_range ((H1.out.2.right).perm (star_assoc _ _ _))) (HCL.out _ (H1.out.2.right).right.right)
                      refine reg_call 9 rfl rfl (by decide +kernel) rfl (f := 15) (args := #[.pointer (some ⟨p, 0, none⟩), .int .i64 0, .agg (tailA (tailK (l.take i) i)), .agg (genA ⟨1, (i : Int) + 1⟩), .string (strB r)]) (R := fun v w' => v = .tuple #[.agg (tailA noTail), .int .i64 14] ∧ Hid (Same w6 w' ∧ Sat w' (pts g (.cells zTail TTail (0, 0)) * ((pts T (.cells (tailA (tailK (l.take i) i)) TTail (0, 0)) * X) * (shelfAt SH p S' * old w))))) (by kernel_rfl) ((HAP.out _ w6 (H1.out.2.perm (star_assoc _ _ _).symm)).mono fun e w' h => ⟨_, h.1, rfl, h.2.out.1, h.2.out.2.perm (star_assoc _ _ _)⟩) ?_
                      rintro _ w7 ⟨rfl, hx⟩
                      replace H1 := Lib.hid (And.intro (H1.out.1.trans hx.out.1) hx.out.2)
                      replace hS0 := And.intro (t_range ((H1.out.2.right).perm (star_assoc _ _ _))) (HCL.out _ (H1.out.2.right).right.right)
                      clear hx
                      refine ⟨hS0, ?_⟩
                      simp only [List.setIfInBounds_toArray, List.set_cons_succ, List.set_cons_zero]
                      (apply reg_take 10 rfl rfl (by decide +kernel) rfl); (rintro w' ⟨h1, h2⟩; go_simp; rfl); exact hS0; simp only [List.setIfInBounds_toArray, List.set_cons_succ, List.set_cons_zero]
                      (apply reg_take 11 rfl rfl (by decide +kernel) rfl); (rintro w' ⟨h1, h2⟩; go_simp; rfl); exact hS0; simp only [List.setIfInBounds_toArray, List.set_cons_succ, List.set_cons_zero]
                      (apply reg_take 12 rfl rfl (by decide +kernel) rfl); (rintro w' ⟨h1, h2⟩; go_simp; rfl); exact hS0; simp only [List.setIfInBounds_toArray, List.set_cons_succ, List.set_cons_zero]
                      refine reg_store_blk 14 (T := TTail) (old := zTail) (new := tailA noTail) rfl rfl (by decide +kernel) rfl rfl rfl rfl H1.out.2 (infoTail rfl) rfl (by simp [Value.oneCell']) ?_
                      intro w9 h9
                      replace H1 := Lib.hid (And.intro (H1.out.1.trans h9.out.1) h9.out.2)
                      replace hS0 := And.intro (t_range ((H1.out.2.right).perm (star_assoc _ _ _))) (HCL.out _ (H1.out.2.right).right.right)
                      clear h9
                      refine ⟨hS0, ?_⟩
                      (apply reg_take 15 rfl rfl (by decide +kernel) rfl); (rintro w' ⟨h1, h2⟩; go_simp; rfl); exact hS0; simp only [List.setIfInBounds_toArray, List.set_cons_succ, List.set_cons_zero]
                      refine reg_done (by decide +kernel) ?_
                      exact ⟨g, rfl, H1⟩
                  intro g w6 H1
                  try dsimp only
                  clear hS0
                  replace H1 := Lib.hid (And.intro H1.out.1 H1.out.2.right)
                  have hlt' := HLT.out
                  go_upto_region 20 with (fail)
                  have HMT := Lib.hid (cr_mount (p := p) (S := S') HPK.out HB.out.2.2.2.2.2)
                  have hll9 := HB.out.2.2.1
                  have hcap9 := HB.out.2.1
                  go_wp2_with (first
                    | (go_at_call 22; refine (HMT.out _ _ H1.out.2).mono ?_; rintro e w10 ⟨rfl, h2⟩; replace H1 := Lib.hid (And.intro (H1.out.1.trans h2.out.1) h2.out.2); clear h2
                       obtain ⟨hf, m, hm1, hm2, hsc⟩ := HCO.out picks (shelfAt_wf (H1.out.2.perm (star_left_comm _ _ _)))
                       have hJ : (l.take i).length = i := by rw [List.length_take]; omega
                       rw [hJ] at hm2
                       have htk : (l.take i).take m = l.take m := by rw [List.take_take, Nat.min_eq_left hm2]
                       rw [htk] at hsc
                       have hmlen : (l.take m).length = m := by rw [List.length_take]; omega
                       have HSC := Lib.hid (cr_scan (p := p) hf (by rw [hmlen]; omega) hsc)
                       have hg1 : decide ((sf : Int) ≤ (m : Int)) = true := decide_eq_true (by omega)
                       have hg2 : decide ((m : Int) ≤ ((i : Int) + 1)) = true := decide_eq_true (by omega)
                       have hmc : m ≤ cap := by omega
                       have hsm9 : (sf : Int) ≤ (m : Int) ∧ (m : Int) ≤ ((i : Int) + 1) := by omega
                       have HML := Lib.hid (show m ≤ l.length by omega)
                       have HMM := Lib.hid hmlen
                       have hwm : IntKind.i64.wrap (m : Int) = (m : Int) := wrap_nat m (by omega)
                       clear hf hsc hm1 hm2 hJ htk HCO HMT hmlen hll9 hcap9)
                    | (go_at_call 12; refine (HSC.out _ _ _ H1.out.2).mono ?_; rintro e w11 ⟨vo, rfl, h2⟩; replace H1 := Lib.hid (And.intro (H1.out.1.trans h2.out.1) (h2.out.2.perm (crE_old _ _ _))); clear h2
                       obtain ⟨ao19, cp19, rfl⟩ := ownAt_slice (show Sat _ (ownS vo (l.take m) * _) from H1.out.2.left.left)
                       rw [HMM.out] at H1 ⊢)
                    | (go_at_call 10; refine (HSAN.out _ _ (H1.out.2.allocKeep _)).mono ?_; rintro e w13 ⟨rfl, hx⟩; replace H1 := Lib.hid (And.intro ((H1.out.1.alloc _).trans hx.out.1) hx.out.2); clear hx)
                    | (go_at_call 14; (first
                        | (refine (same18_any _ _ ((l.take m).map strB) ((l.take m).map strB) _ (crE_strs H1.out.2) (by rw [List.map_take]; exact StrsAt.takeAt (HV.out.old H1.out.2) (by rw [List.length_map]; exact HML.out)) (by rw [List.length_map, HMM.out]; have := HML.out; have := HB.out.2.2.1; omega)).mono ?_)
                        | (refine (same18_any _ _ ((l.take m).map strB) ((l.take m).map strB) _ (crE_strs H1.out.2) (by rw [List.map_take]; exact StrsAt.cut (HV.out.old H1.out.2) (by rw [List.length_map]; exact HML.out)) (by rw [List.length_map, HMM.out]; have := HML.out; have := HB.out.2.2.1; omega)).mono ?_)); rintro e w14 ⟨rfl, hx⟩; replace H1 := Lib.hid (And.intro (H1.out.1.below hx) (H1.out.2.below hx)); clear hx)
                    | fail)
                  all_goals (first
                    | (exfalso; omega)
                    | (go_ret; exact ⟨rfl, H1.out.1.below_of H1.out.2⟩))
              · have ha := appM_err (S := S) hinv.fine.cfg hz
                have h14 := appErr_vals (cfgW size) 0 (tailK (l.take i) i) ⟨1, (i : Int) + 1⟩ r
                obtain ⟨er, her⟩ : ∃ er, appErr (cfgW size) 0 (tailK (l.take i) i) ⟨1, (i : Int) + 1⟩ r = er := ⟨_, rfl⟩
                rw [her] at ha h14
                have HAP := Lib.hid (fun (X : HProp) (W : World) (h : Sat W (X * (shelfAt SH p S * old w))) => app_to ha hrl X W h)
                have her0 : (er != 0) = true := by simpa [bne, her] using hz
                have her1 : (er == 14) = false := by simpa using h14
                have HCO := Lib.hid (hinv.out HB.out.1 (by rw [hlen]; omega))
                clear her hz ha hrl hinv hlen h14
                go_upto_region 11 with (fail)
                replace H1 := Lib.hid (And.intro H1.out.1.drew H1.out.2.drew)
                have hS0 := And.intro (t_range ((H1.out.2).perm (star_assoc _ _ _))) (HCL.out _ (H1.out.2).right.right)
                refine reg_begin (fun w' => w'.rangeAt T 0 (tailA (tailK (l.take i) i)).toList ∧ w'.cell? ⟨b0, off + i * 1, none⟩ = some (.string (strB r))) (by kernel_rfl) ?_
                generalize wr.drew = w5 at H1 hS0 ⊢
                apply reg_cutT (K := fun g w' => Hid (Same w w' ∧ Sat w' (pts g (.cells (tailA noTail) TTail (0, 0)) * ((pts T (.cells (tailA (tailK (l.take i) i)) TTail (0, 0)) * X) * (shelfAt SH p S * old w)))))
                · skip
                  (apply reg_take 0 rfl rfl (by decide +kernel) rfl); (rintro w' ⟨h1, h2⟩; go_simp; rfl); exact hS0; simp only [List.setIfInBounds_toArray, List.set_cons_succ, List.set_cons_zero]
                  refine reg_take 1 (v := .agg (tailA (tailK (l.take i) i))) rfl rfl (by decide +kernel) rfl (fun w' h => exec_load_tail rfl rfl h.1) hS0 ?_; simp only [List.setIfInBounds_toArray, List.set_cons_succ, List.set_cons_zero]
                  (apply reg_take 2 rfl rfl (by decide +kernel) rfl); (rintro w' ⟨h1, h2⟩; go_simp; rfl); exact hS0; simp only [List.setIfInBounds_toArray, List.set_cons_succ, List.set_cons_zero]
                  (apply reg_take 3 rfl rfl (by decide +kernel) rfl); (rintro w' ⟨h1, h2⟩; go_simp; rfl); exact hS0; simp only [List.setIfInBounds_toArray, List.set_cons_succ, List.set_cons_zero]
                  (apply reg_take 4 rfl rfl (by decide +kernel) rfl); (rintro w' ⟨h1, h2⟩; go_simp; rfl); exact hS0; simp only [List.setIfInBounds_toArray, List.set_cons_succ, List.set_cons_zero]
                  (apply reg_take 5 rfl rfl (by decide +kernel) rfl); (rintro w' ⟨h1, h2⟩; go_simp; rfl); exact hS0; simp only [List.setIfInBounds_toArray, List.set_cons_succ, List.set_cons_zero]
                  (apply reg_take 6 rfl rfl (by decide +kernel) rfl); (rintro w' ⟨h1, h2⟩; go_simp; rfl); exact hS0; simp only [List.setIfInBounds_toArray, List.set_cons_succ, List.set_cons_zero]
                  refine reg_take 7 (v := .pointer (some ⟨b0, off + i * 1, none⟩)) rfl rfl (by decide +kernel) rfl (fun w' h => exec_index_slice rfl rfl rfl Try.underlying22 HSI.out.1 HSI.out.2 HLT.out) hS0 ?_; simp only [List.setIfInBounds_toArray, List.set_cons_succ, List.set_cons_zero]
                  refine reg_take 8 (v := .string (strB r)) rfl rfl (by decide +kernel) rfl (fun w' h => exec_load_cell rfl rfl Try.underlying9 rfl h.2) hS0 ?_; simp only [List.setIfInBounds_toArray, List.set_cons_succ, List.set_cons_zero]
                  refine reg_fork 9 13 (by decide +kernel) ?_ ?_
                  · refine rstep_call rfl rfl (by decide +kernel) rfl (f := 15) (args := #[.pointer (some ⟨p, 0, none⟩), .int .i64 0, .agg (tailA (tailK (l.take i) i)), .agg (genA ⟨1, (i : Int) + 1⟩), .string (strB r)]) (R := fun v w' => v = .tuple #[.agg (tailA noTail), .int .i64 er] ∧ Hid (Same w5 w' ∧ Sat w' ((pts T (.cells (tailA (tailK (l.take i) i)) TTail (0, 0)) * X) * (shelfAt SH p S * old w)))) (by kernel_rfl) ((HAP.out _ w5 H1.out.2).mono fun e w' h => ⟨_, h.1, rfl, h.2.out.1, h.2.out.2⟩) ?_
                    rintro _ w6 ⟨rfl, hx⟩
                    replace H1 := Lib.hid (And.intro (H1.out.1.trans hx.out.1) hx.out.2)
                    replace hS0 := And.intro (t_range ((H1.out.2).perm (star_assoc _ _ _))) (HCL.out _ (H1.out.2).right.right)
                    clear hx
                    refine ⟨hS0, ?_⟩
                    simp only [List.setIfInBounds_toArray, List.set_cons_succ, List.set_cons_zero]
                    (apply reg_take 10 rfl rfl (by decide +kernel) rfl); (rintro w' ⟨h1, h2⟩; go_simp; rfl); exact hS0; simp only [List.setIfInBounds_toArray, List.set_cons_succ, List.set_cons_zero]
                    (apply reg_take 11 rfl rfl (by decide +kernel) rfl); (rintro w' ⟨h1, h2⟩; go_simp; rfl); exact hS0; simp only [List.setIfInBounds_toArray, List.set_cons_succ, List.set_cons_zero]
                    (apply reg_take 12 rfl rfl (by decide +kernel) rfl); (rintro w' ⟨h1, h2⟩; go_simp; rfl); exact hS0; simp only [List.setIfInBounds_toArray, List.set_cons_succ, List.set_cons_zero]
                    refine reg_run 13 (.pointer (some ⟨w6.heap.size, 0, none⟩)) (w6.alloc (.cells zTail TTail)) rfl rfl (by decide +kernel) rfl (exec_alloc_zero rfl _ (zeroTail _)) (And.intro (t_range (((H1.out.2.alloc (.cells zTail TTail)).right).perm (star_assoc _ _ _))) (HCL.out _ ((H1.out.2.alloc (.cells zTail TTail)).right).right.right)) ?_; simp only [List.setIfInBounds_toArray, List.set_cons_succ, List.set_cons_zero]
                    replace H1 := Lib.hid (And.intro (H1.out.1.alloc (.cells zTail TTail)) (H1.out.2.alloc (.cells zTail TTail)))
                    generalize w6.alloc (.cells zTail TTail) = w7 at H1 ⊢
                    generalize w6.heap.size = g at H1 ⊢
                    replace hS0 := And.intro (t_range ((H1.out.2.right).perm (star_assoc _ _ _))) (HCL.out _ (H1.out.2.right).right.right)
                    refine reg_store_blk 14 (T := TTail) (old := zTail) (new := tailA noTail) rfl rfl (by decide +kernel) rfl rfl rfl rfl H1.out.2 (infoTail rfl) rfl (by simp [Value.oneCell']) ?_
                    intro w9 h9
                    replace H1 := Lib.hid (And.intro (H1.out.1.trans h9.out.1) h9.out.2)
                    replace hS0 := And.intro (t_range ((H1.out.2.right).perm (star_assoc _ _ _))) (HCL.out _ (H1.out.2.right).right.right)
                    clear h9
                    refine ⟨hS0, ?_⟩
                    (apply reg_take 15 rfl rfl (by decide +kernel) rfl); (rintro w' ⟨h1, h2⟩; go_simp; rfl); exact hS0; simp only [List.setIfInBounds_toArray, List.set_cons_succ, List.set_cons_zero]
                    refine reg_done (by decide +kernel) ?_
                    exact ⟨g, rfl, H1⟩
                  · refine rstep_run (.pointer (some ⟨w5.heap.size, 0, none⟩)) (w5.alloc (.cells zTail TTail)) rfl rfl (by decide +kernel) rfl (exec_alloc_zero rfl _ (zeroTail _)) (And.intro (t_range (((H1.out.2.alloc (.cells zTail TTail)).right).perm (star_assoc _ _ _))) (HCL.out _ ((H1.out.2.alloc (.cells zTail TTail)).right).right.right)) ?_; simp only [List.setIfInBounds_toArray, List.set_cons_succ, List.set_cons_zero]
                    replace H1 := Lib.hid (And.intro (H1.out.1.alloc (.cells zTail TTail)) (H1.out.2.alloc (.cells zTail TTail)))
                    generalize w5.alloc (.cells zTail TTail) = w6 at H1 ⊢
                    generalize w5.heap.size = g at H1 ⊢
                    replace hS0 := And.intro (t_range ((H1.out.2.right).perm (star_assoc _ _ _))) (HCL.out _ (H1.out.2.right).right.right)
                    refine reg_call 9 rfl rfl (by decide +kernel) rfl (f := 15) (args := #[.pointer (some ⟨p, 0, none⟩), .int .i64 0, .agg (tailA (tailK (l.take i) i)), .agg (genA ⟨1, (i : Int) + 1⟩), .string (strB r)]) (R := fun v w' => v = .tuple #[.agg (tailA noTail), .int .i64 er] ∧ Hid (Same w6 w' ∧ Sat w' (pts g (.cells zTail TTail (0, 0)) * ((pts T (.cells (tailA (tailK (l.take i) i)) TTail (0, 0)) * X) * (shelfAt SH p S * old w))))) (by kernel_rfl) ((HAP.out _ w6 (H1.out.2.perm (star_assoc _ _ _).symm)).mono fun e w' h => ⟨_, h.1, rfl, h.2.out.1, h.2.out.2.perm (star_assoc _ _ _)⟩) ?_
                    rintro _ w7 ⟨rfl, hx⟩
                    replace H1 := Lib.hid (And.intro (H1.out.1.trans hx.out.1) hx.out.2)
                    replace hS0 := And.intro (t_range ((H1.out.2.right).perm (star_assoc _ _ _))) (HCL.out _ (H1.out.2.right).right.right)
                    clear hx
                    refine ⟨hS0, ?_⟩
                    simp only [List.setIfInBounds_toArray, List.set_cons_succ, List.set_cons_zero]
                    (apply reg_take 10 rfl rfl (by decide +kernel) rfl); (rintro w' ⟨h1, h2⟩; go_simp; rfl); exact hS0; simp only [List.setIfInBounds_toArray, List.set_cons_succ, List.set_cons_zero]
                    (apply reg_take 11 rfl rfl (by decide +kernel) rfl); (rintro w' ⟨h1, h2⟩; go_simp; rfl); exact hS0; simp only [List.setIfInBounds_toArray, List.set_cons_succ, List.set_cons_zero]
                    (apply reg_take 12 rfl rfl (by decide +kernel) rfl); (rintro w' ⟨h1, h2⟩; go_simp; rfl); exact hS0; simp only [List.setIfInBounds_toArray, List.set_cons_succ, List.set_cons_zero]
                    refine reg_store_blk 14 (T := TTail) (old := zTail) (new := tailA noTail) rfl rfl (by decide +kernel) rfl rfl rfl rfl H1.out.2 (infoTail rfl) rfl (by simp [Value.oneCell']) ?_
                    intro w9 h9
                    replace H1 := Lib.hid (And.intro (H1.out.1.trans h9.out.1) h9.out.2)
                    replace hS0 := And.intro (t_range ((H1.out.2.right).perm (star_assoc _ _ _))) (HCL.out _ (H1.out.2.right).right.right)
                    clear h9
                    refine ⟨hS0, ?_⟩
                    (apply reg_take 15 rfl rfl (by decide +kernel) rfl); (rintro w' ⟨h1, h2⟩; go_simp; rfl); exact hS0; simp only [List.setIfInBounds_toArray, List.set_cons_succ, List.set_cons_zero]
                    refine reg_done (by decide +kernel) ?_
                    exact ⟨g, rfl, H1⟩
                intro g w6 H1
                try dsimp only
                clear hS0
                replace H1 := Lib.hid (And.intro H1.out.1 H1.out.2.right)
                have hlt' := HLT.out
                go_upto_region 20 with (fail)
                have HMT := Lib.hid (cr_mount (p := p) (S := S) HPK.out HB.out.2.2.2.2.2)
                have hll9 := HB.out.2.2.1
                have hcap9 := HB.out.2.1
                go_wp2_with (first
                  | (go_at_call 22; refine (HMT.out _ _ H1.out.2).mono ?_; rintro e w10 ⟨rfl, h2⟩; replace H1 := Lib.hid (And.intro (H1.out.1.trans h2.out.1) h2.out.2); clear h2
                     obtain ⟨hf, m, hm1, hm2, hsc⟩ := HCO.out picks (shelfAt_wf (H1.out.2.perm (star_left_comm _ _ _)))
                     have hJ : (l.take i).length = i := by rw [List.length_take]; omega
                     rw [hJ] at hm2
                     have htk : (l.take i).take m = l.take m := by rw [List.take_take, Nat.min_eq_left hm2]
                     rw [htk] at hsc
                     have hmlen : (l.take m).length = m := by rw [List.length_take]; omega
                     have HSC := Lib.hid (cr_scan (p := p) hf (by rw [hmlen]; omega) hsc)
                     have hg1 : decide ((sf : Int) ≤ (m : Int)) = true := decide_eq_true (by omega)
                     have hg2 : decide ((m : Int) ≤ (i : Int)) = true := decide_eq_true (by omega)
                     have hmc : m ≤ cap := by omega
                     have hsm9 : (sf : Int) ≤ (m : Int) ∧ (m : Int) ≤ (i : Int) := by omega
                     have HML := Lib.hid (show m ≤ l.length by omega)
                     have HMM := Lib.hid hmlen
                     have hwm : IntKind.i64.wrap (m : Int) = (m : Int) := wrap_nat m (by omega)
                     clear hf hsc hm1 hm2 hJ htk HCO HMT hmlen hll9 hcap9)
                  | (go_at_call 12; refine (HSC.out _ _ _ H1.out.2).mono ?_; rintro e w11 ⟨vo, rfl, h2⟩; replace H1 := Lib.hid (And.intro (H1.out.1.trans h2.out.1) (h2.out.2.perm (crE_old _ _ _))); clear h2
                     obtain ⟨ao19, cp19, rfl⟩ := ownAt_slice (show Sat _ (ownS vo (l.take m) * _) from H1.out.2.left.left)
                     rw [HMM.out] at H1 ⊢)
                  | (go_at_call 10; refine (HSAN.out _ _ (H1.out.2.allocKeep _)).mono ?_; rintro e w13 ⟨rfl, hx⟩; replace H1 := Lib.hid (And.intro ((H1.out.1.alloc _).trans hx.out.1) hx.out.2); clear hx)
                  | (go_at_call 14; (first
                      | (refine (same18_any _ _ ((l.take m).map strB) ((l.take m).map strB) _ (crE_strs H1.out.2) (by rw [List.map_take]; exact StrsAt.takeAt (HV.out.old H1.out.2) (by rw [List.length_map]; exact HML.out)) (by rw [List.length_map, HMM.out]; have := HML.out; have := HB.out.2.2.1; omega)).mono ?_)
                      | (refine (same18_any _ _ ((l.take m).map strB) ((l.take m).map strB) _ (crE_strs H1.out.2) (by rw [List.map_take]; exact StrsAt.cut (HV.out.old H1.out.2) (by rw [List.length_map]; exact HML.out)) (by rw [List.length_map, HMM.out]; have := HML.out; have := HB.out.2.2.1; omega)).mono ?_)); rintro e w14 ⟨rfl, hx⟩; replace H1 := Lib.hid (And.intro (H1.out.1.below hx) (H1.out.2.below hx)); clear hx)
                  | fail)
                all_goals (first
                  | (exfalso; omega)
                  | (go_ret; exact ⟨rfl, H1.out.1.below_of H1.out.2⟩))
            · have hltd : decide ((i : Int) < (l.length : Int)) = false := decide_eq_false (by omega)
              have hnlt : ¬ (i : Int) < (l.length : Int) := by omega
              have HCO := Lib.hid (hinv.out HB.out.1 (by rw [hlen]; omega))
              clear hinv hlen
              have HMT := Lib.hid (cr_mount (p := p) (S := S) HPK.out HB.out.2.2.2.2.2)
              have hll9 := HB.out.2.2.1
              have hcap9 := HB.out.2.1
              go_wp2_with (first
                | (go_at_call 22; refine (HMT.out _ _ H1.out.2).mono ?_; rintro e w10 ⟨rfl, h2⟩; replace H1 := Lib.hid (And.intro (H1.out.1.trans h2.out.1) h2.out.2); clear h2
                   obtain ⟨hf, m, hm1, hm2, hsc⟩ := HCO.out picks (shelfAt_wf (H1.out.2.perm (star_left_comm _ _ _)))
                   have hJ : (l.take i).length = i := by rw [List.length_take]; omega
                   rw [hJ] at hm2
                   have htk : (l.take i).take m = l.take m := by rw [List.take_take, Nat.min_eq_left hm2]
                   rw [htk] at hsc
                   have hmlen : (l.take m).length = m := by rw [List.length_take]; omega
                   have HSC := Lib.hid (cr_scan (p := p) hf (by rw [hmlen]; omega) hsc)
                   have hg1 : decide ((sf : Int) ≤ (m : Int)) = true := decide_eq_true (by omega)
                   have hg2 : decide ((m : Int) ≤ (i : Int)) = true := decide_eq_true (by omega)
                   have hmc : m ≤ cap := by omega
                   have hsm9 : (sf : Int) ≤ (m : Int) ∧ (m : Int) ≤ (i : Int) := by omega
                   have HML := Lib.hid (show m ≤ l.length by omega)
                   have HMM := Lib.hid hmlen
                   have hwm : IntKind.i64.wrap (m : Int) = (m : Int) := wrap_nat m (by omega)
                   clear hf hsc hm1 hm2 hJ htk HCO HMT hmlen hll9 hcap9)
                | (go_at_call 12; refine (HSC.out _ _ _ H1.out.2).mono ?_; rintro e w11 ⟨vo, rfl, h2⟩; replace H1 := Lib.hid (And.intro (H1.out.1.trans h2.out.1) (h2.out.2.perm (crE_old _ _ _))); clear h2
                   obtain ⟨ao19, cp19, rfl⟩ := ownAt_slice (show Sat _ (ownS vo (l.take m) * _) from H1.out.2.left.left)
                   rw [HMM.out] at H1 ⊢)
                | (go_at_call 10; refine (HSAN.out _ _ (H1.out.2.allocKeep _)).mono ?_; rintro e w13 ⟨rfl, hx⟩; replace H1 := Lib.hid (And.intro ((H1.out.1.alloc _).trans hx.out.1) hx.out.2); clear hx)
                | (go_at_call 14; (first
                    | (refine (same18_any _ _ ((l.take m).map strB) ((l.take m).map strB) _ (crE_strs H1.out.2) (by rw [List.map_take]; exact StrsAt.takeAt (HV.out.old H1.out.2) (by rw [List.length_map]; exact HML.out)) (by rw [List.length_map, HMM.out]; have := HML.out; have := HB.out.2.2.1; omega)).mono ?_)
                    | (refine (same18_any _ _ ((l.take m).map strB) ((l.take m).map strB) _ (crE_strs H1.out.2) (by rw [List.map_take]; exact StrsAt.cut (HV.out.old H1.out.2) (by rw [List.length_map]; exact HML.out)) (by rw [List.length_map, HMM.out]; have := HML.out; have := HB.out.2.2.1; omega)).mono ?_)); rintro e w14 ⟨rfl, hx⟩; replace H1 := Lib.hid (And.intro (H1.out.1.below hx) (H1.out.2.below hx)); clear hx)
                | fail)
              all_goals (first
                | (exfalso; omega)
                | (go_ret; exact ⟨rfl, H1.out.1.below_of H1.out.2⟩))
        · skip
          clear hv hsz hfl hpk
          go_enter Try.func8, Try.ntmps8
          go_wp2_with (first
            | (go_at_call 19; refine (HCF.out _).mono ?_; rintro e w1 ⟨rfl, hb1⟩)
            | (go_at_call 18; refine (HNEW.out _ ((Sat.old w).below hb1)).mono ?_; rintro e w2 ⟨p, rfl, h2⟩)
            | (go_at_call 10; refine (HSAN.out _ _ h2.out.2).mono ?_; rintro e w3 ⟨rfl, h3⟩))
          go_ret
          exact ⟨rfl, ((((Same.refl w).below hb1).trans h2.out.1).trans h3.out.1).below_of h3.out.2⟩
      · skip
        clear hv hsz hfl hpk
        go_enter Try.func8, Try.ntmps8
        go_wp2_with (first
          | (go_at_call 19; refine (HCF.out _).mono ?_; rintro e w1 ⟨rfl, hb1⟩)
          | (go_at_call 18; refine (HNEW.out _ ((Sat.old w).below hb1)).mono ?_; rintro e w2 ⟨p, rfl, h2⟩)
          | (go_at_call 10; refine (HSAN.out _ _ h2.out.2).mono ?_; rintro e w3 ⟨rfl, h3⟩))
        go_ret
        exact ⟨rfl, ((((Same.refl w).below hb1).trans h2.out.1).trans h3.out.1).below_of h3.out.2⟩
    · exact hbad 2 (by decide) fun W h => snew_big _ _ W h hok (by omega)
end Go.Proofs.Ytbegomjbakidmaa

/- WalCrash: its row. -/
namespace Go.Proofs.Ytbegomjbakidmaa
open Go.ChangeShapes Go.WideShapes Go.ChangeAt Go.RowKit Go.Sl Go.ChangeMaps
set_option maxRecDepth 100000 in
theorem walCrash_lifted (os : Os) (started : os.Started) (H : Type) (enc : TypeId × Value → H) :
    ReturnsInHanded {} Try.checked os 8 .any (Rows.walCrashSpec.pre6 enc Try.prog Try.f8 Rows.walCrashRow.domain false) (Rows.walCrashSpec.post enc Try.prog Try.f8 false true false false) := by
  refine returnsInHanded_of_change (C := Try.checked) law_own started (by kernel_rfl) Try.func8
    (ChangeSpec.witness6 (enc := enc) (C := Try.checked) false ⟨#[], #[.int .i64 0, .slice none 0 0, .slice none 0 0, .int .i64 0, .slice none 0 0], []⟩ 8 (by kernel_rfl) (by kernel_rfl) (by kernel_rfl) (by kernel_rfl)) ?_
  intro W base args ds gs before hval0 hW _ _
  have hval : ∀ (j : Nat) t v, Try.f8.params[j]? = some t → args[j]? = some v → Value.okWide Try.prog W .any base t v := hval0
  have hW' := hW
  obtain ⟨p, q, hA0, hV, rfl, _, _⟩ := hW
  have hA : DataW.TrodAll enc Try.prog W 0 (fun _ => true) true Try.f8.params.toList args.toList ds p := hA0
  rw [Try.params8] at hA hval
  obtain ⟨w0, vs0, d0, ds0, p0, q0, hargs, rfl, rfl, h0, r0⟩ := trodAll_cons hA
  obtain ⟨w1, vs1, d1, ds1, p1, q1, rfl, rfl, rfl, h1, r1⟩ := trodAll_cons r0
  obtain ⟨w2, vs2, d2, ds2, p2, q2, rfl, rfl, rfl, h2, r2⟩ := trodAll_cons r1
  obtain ⟨w3, vs3, d3, ds3, p3, q3, rfl, rfl, rfl, h3, r3⟩ := trodAll_cons r2
  obtain ⟨w4, vs4, d4, ds4, p4, q4, rfl, rfl, rfl, h4, r4⟩ := trodAll_cons r3
  obtain ⟨rfl, rfl, rfl⟩ := trodAll_nil r4
  obtain rfl : args = #[w0, w1, w2, w3, w4] := by cases args; simp_all
  obtain ⟨rfl, rfl⟩ := trodVars_none hV
  obtain ⟨b0, rfl, rfl, rfl, wf0⟩ := open_int Try.underlying3 (hval 0 3 w0 rfl rfl) h0
  obtain ⟨ao1, cp1, l1, e1, c1, s1, m1⟩ := rd_strsC (trod_rd h1)
  obtain ⟨x1, y1, z1, rfl⟩ := okWide_slice Try.underlying22 (hval 1 _ w1 rfl rfl)
  obtain ⟨rfl, rfl, rfl⟩ : x1 = ao1 ∧ y1 = l1.length ∧ z1 = cp1 := by simpa [Value.cells] using e1
  obtain ⟨v2, l2, e2, s2, m2⟩ := rd_bools (trod_rd h2)
  obtain ⟨x2, y2, z2, rfl⟩ := okWide_slice Try.underlying48 (hval 2 _ w2 rfl rfl)
  obtain rfl : .slice x2 y2 z2 = v2 := by simpa [Value.cells] using e2
  obtain ⟨b3, rfl, rfl, rfl, wf3⟩ := open_int Try.underlying3 (hval 3 3 w3 rfl rfl) h3
  obtain ⟨v4, l4, e4, s4, m4⟩ := rd_intsC (trod_rd h4)
  obtain ⟨x4, y4, z4, rfl⟩ := okWide_slice Try.underlying49 (hval 4 _ w4 rfl rfl)
  obtain rfl : .slice x4 y4 z4 = v4 := by simpa [Value.cells] using e4
  refine (crash_law _ _ _ _ _ _ _ _ _ W (bounds_i64 wf0) (by have := bounds_i64 wf3; omega) s1 c1 m1 s2 s4 m4).mono fun e W' ⟨he, hg⟩ => ?_
  subst he
  exact ⟨_, rfl, law_post (by kernel_rfl) rfl (of_decide_eq_true (by kernel_rfl)) rfl hW' hg⟩

theorem walCrash_holds : Rows.WalCrashSaid :=
  OpenClaim.holds_of_wide 8 Try.f8 rfl rfl rfl rfl rfl rfl rfl ⟨rfl, rfl, rfl, rfl, rfl⟩ rfl rfl rfl rfl rfl (by kernel_rfl) Try.func8 (by kernel_rfl)
    (of_decide_eq_true (by kernel_rfl)) (by unfold Func.isWrapper; first | (rw [if_pos (by decide +kernel)]; kernel_rfl) | (rw [if_neg (by decide +kernel)]; exact ⟨rfl, rfl⟩))
    (fun os started H enc _ => walCrash_lifted os started H enc)


end Go.Proofs.Ytbegomjbakidmaa
