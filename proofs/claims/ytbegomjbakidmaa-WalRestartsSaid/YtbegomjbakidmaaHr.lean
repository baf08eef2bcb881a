/- WalRestarts: for all sizes and records the law answers true. -/
import Derived.Test.YtbegomjbakidmaaHq
namespace Go.Proofs.Ytbegomjbakidmaa
open Go.RowKit Go.Sl Go.ChangeMaps

structure RsSt (w : World) (E : HProp) (size : Int) (fr : TailM) (m : List (List UInt8)) (p A T : Nat) (v12 v13 : Value) (wr : World) : Prop where
  st : ∃ (i : Nat) (S : ShelfM) (t : TailM), i ≤ m.length ∧ v13 = .int .i64 (i : Int) ∧ InvR size S fr (m.take i) t ∧ Same w wr ∧ Sat wr ((pts T (.cells (tailA t) TTail (0, 0)) * (pts A (.cells (tailA fr) TTail (0, 0)) * (ownS v12 (m.take i) * E))) * (shelfAt SH p S * old w))
def rsE (U T A : Nat) (t fr : TailM) (vo v12 : Value) (ms : List (List UInt8)) (E X : HProp) : HProp := pts U (.cells (tailA t) TTail (0, 0)) * ((ownS vo ms * (pts T (.cells (tailA t) TTail (0, 0)) * (pts A (.cells (tailA fr) TTail (0, 0)) * (ownS v12 ms * E)))) * X)
theorem rs_facts {w : World} {U T A : Nat} {t fr : TailM} {vo v12 : Value} {ms : List (List UInt8)} {E X Y : HProp} (h : Sat w (rsE U T A t fr vo v12 ms E X * Y)) :
    (w.cell? ⟨U, 0, none⟩ = some (.int .i64 t.next) ∧ w.cell? ⟨U, 1, none⟩ = some (.int .i64 t.number) ∧ w.cell? ⟨U, 2, none⟩ = some (.int .i64 t.gen.epoch) ∧ w.cell? ⟨U, 3, none⟩ = some (.int .i64 t.gen.count) ∧ U < w.heap.size) ∧
    (w.cell? ⟨T, 0, none⟩ = some (.int .i64 t.next) ∧ w.cell? ⟨T, 1, none⟩ = some (.int .i64 t.number) ∧ w.cell? ⟨T, 2, none⟩ = some (.int .i64 t.gen.epoch) ∧ w.cell? ⟨T, 3, none⟩ = some (.int .i64 t.gen.count) ∧ T < w.heap.size) ∧
    StrsAt w vo (ms.map strB) ∧ StrsAt w v12 (ms.map strB) := by
  unfold rsE at h
  refine ⟨t4 (h.perm (star_assoc _ _ _)), t4 (h.perm (show _ = pts T (.cells (tailA t) TTail (0, 0)) * (pts U (.cells (tailA t) TTail (0, 0)) * (ownS vo ms * (pts A (.cells (tailA fr) TTail (0, 0)) * (ownS v12 ms * (E * (X * Y)))))) from by ac_rfl)), ?_, ?_⟩
  · exact ownS_strs (h.perm (show _ = ownS vo ms * (pts T (.cells (tailA t) TTail (0, 0)) * (pts U (.cells (tailA t) TTail (0, 0)) * (pts A (.cells (tailA fr) TTail (0, 0)) * (ownS v12 ms * (E * (X * Y)))))) from by ac_rfl))
  · exact ownS_strs (h.perm (show _ = ownS v12 ms * (pts T (.cells (tailA t) TTail (0, 0)) * (pts U (.cells (tailA t) TTail (0, 0)) * (pts A (.cells (tailA fr) TTail (0, 0)) * (ownS vo ms * (E * (X * Y)))))) from by ac_rfl))
theorem rs_old {U T A : Nat} {t fr : TailM} {vo v12 : Value} {ms : List (List UInt8)} {E S W : HProp} : pts U (.cells (tailA t) TTail (0, 0)) * ((ownS vo ms * (pts T (.cells (tailA t) TTail (0, 0)) * (pts A (.cells (tailA fr) TTail (0, 0)) * (ownS v12 ms * E)))) * (S * W)) = rsE U T A t fr vo v12 ms E S * W := by
  unfold rsE; ac_rfl
theorem rs_scan {p : Nat} {size : Int} {S : ShelfM} {fr t : TailM} {ms : List (List UInt8)} (hi : InvR size S fr ms t) (h1 : 1 ≤ size) (h2 : size ≤ 40) (hl : ms.length ≤ 40) (hv : tailV fr = true) (X F : HProp) (W : World) (h : Sat W (X * (shelfAt SH p S * F))) :
    Calls Try.prog 12 #[.pointer (some ⟨p, 0, none⟩), .int .i64 0, .agg (tailA fr)] W fun e w' => ∃ v, e = .returned (.tuple #[v, .agg (tailA t), .int .i64 0]) ∧ Hid (Same W w' ∧ Sat w' ((ownS v ms * X) * (shelfAt SH p S * F))) := by
  have hN : ((size.toNat : Nat) : Int) = logN (cfgW size) := by rw [cfgW_logN h1]; omega
  have h3 := scan_fine (F := X * F) (d := 0) hi.fine hN (by show (3 : Int) ≤ size + 3; omega) ⟨by decide, by show (0 : Int) < 2; decide⟩ hv hi.log.scan (by omega) (h.perm (star_left_comm _ _ _))
  exact h3.mono fun e w' ⟨v, he, hs⟩ => ⟨v, he, hs.out.1, hs.out.2.perm (by ac_rfl)⟩
theorem rs_p1 (G T A S E X : HProp) : G * ((T * (A * (S * E))) * X) = T * (G * ((A * (S * E)) * X)) := by ac_rfl
theorem rs_p2 (G T A S E X : HProp) : T * (G * ((A * (S * E)) * X)) = S * (G * ((T * (A * E)) * X)) := by ac_rfl
theorem rs_p3 (G T A S E X : HProp) : S * (G * ((T * (A * E)) * X)) = G * ((T * (A * (S * E))) * X) := by ac_rfl
theorem rs_p0 (T A S E X : HProp) : (T * (A * (S * E))) * X = S * (T * (A * (E * X))) := by ac_rfl
set_option maxHeartbeats 4000000 in
set_option maxRecDepth 100000 in
theorem restarts_law (size : Int) (v vm : Value) (l m : List (List UInt8)) (w : World) (hv : StrsAt w v (List.map strB l)) (hsz : ∀ r ∈ l, r.length ≤ 9223372036854775807) (hvm : StrsAt w vm (List.map strB m)) (hszm : ∀ r ∈ m, r.length ≤ 9223372036854775807) :
    Calls Try.prog 4 #[.int .i64 size, v, vm] w fun e w' => e = .returned (.bool true) ∧ Below w.heap.size w w' := by
  obtain ⟨ao, cap, rfl, _⟩ := id hv
  obtain ⟨aom, capm, rfl, _⟩ := id hvm
  rw [List.length_map, List.length_map] at *
  have HSAN := Lib.hid (fun X W (h : Sat W (X * old w)) => sanity_old w W h)
  have HW := Lib.hid (show Sat w (emp * old w) from by rw [emp_star]; exact Sat.old w)
  cases d1 : decide (size < 1)
  · skip
    cases d2 : decide (40 < size)
    · skip
      cases d3 : decide ((40 : Int) < (l.length : Int))
      · skip
        cases d4 : decide ((40 : Int) < (m.length : Int))
        · skip
          have hs1 : 1 ≤ size := by have := of_decide_eq_false d1; omega
          have hs2 : size ≤ 40 := by have := of_decide_eq_false d2; omega
          have hll : l.length ≤ 40 := by have := of_decide_eq_false d3; omega
          have hml : m.length ≤ 40 := by have := of_decide_eq_false d4; omega
          have HLOG := Lib.hid (log_any size hs1 hs2 _ l hll hsz (old w) w (Sat.old w) (fun W hW => hv.old1 hW))
          have HB := Lib.hid (And.intro hs1 (And.intro hs2 (And.intro hll (And.intro hml hszm))))
          have HVM := Lib.hid hvm
          clear hv hsz hvm hszm hs1 hs2 hll hml
          obtain ⟨ti, hti, hz0, hts, hz2⟩ := info_parts infoTail4
          obtain ⟨si, hsi, sz0, sts, sz2⟩ := info_parts infoStr3
          have HTI := Lib.hid (And.intro hti hts)
          have HSI := Lib.hid (And.intro hsi sts)
          have HSB := Lib.hid (And.intro sz0 sz2)
          clear hti hz0 hts hz2 hsi sz0 sts sz2
          go_enter Try.func4, Try.ntmps4
          go_upto_region 4 with (go_at_call 11; refine HLOG.out.mono ?_; rintro e w1 ⟨p, n, S, vt, vi, hn, hinv, _, rfl, h1⟩)
          have hlen : (l.take n).length = n := by rw [List.length_take]; omega
          have hn40 : n ≤ 40 := Nat.le_trans hn HB.out.2.2.1
          generalize l.take n = rs at hlen hinv h1
          subst hlen
          obtain ⟨g9, c9, rfl, _⟩ := ownT_open h1.out.2
          obtain ⟨ao10, cp10, rfl⟩ := ownAt_slice h1.out.2.right
          have hra := (ownT_at h1.out.2 (Nat.le_refl rs.length)).1
          rw [Nat.zero_add] at hra
          have hR := invR_start hinv (by omega)
          have hfv : tailV ⟨0, (tailK rs rs.length).number, (tailK rs rs.length).gen⟩ = true := tailV_iff.2 ⟨Int.le_refl 0, by show (0 : Int) ≤ (rs.length : Int); omega, by show (0 : Int) ≤ 2147483647; decide, by show (rs.length : Int) ≤ 2147483647; omega, genK_valid (by omega)⟩
          have hnu : (tailK rs rs.length).number ≤ 1000 := by show (rs.length : Int) ≤ 1000; omega
          obtain ⟨nx, nu, ge, gc, hT⟩ : ∃ nx nu ge gc : Int, tailK rs rs.length = ⟨nx, nu, ⟨ge, gc⟩⟩ := ⟨_, _, _, _, rfl⟩
          rw [hT] at hra hR hfv hnu
          have HFV := Lib.hid hfv
          have HNU := Lib.hid hnu
          have HR := Lib.hid hR
          have H1 := Lib.hid (And.intro h1.out.1 (h1.out.2.perm (star_assoc _ _ _).symm))
          have hwr : IntKind.i64.wrap (rs.length : Int) = (rs.length : Int) := wrap_nat rs.length (by omega)
          have hrl1 : rs.length < rs.length + 1 := Nat.lt_succ_self _
          clear h1 hinv hn hR hfv hnu hT HLOG
          go_wp2_with ((with_reducible (apply wp_load_tail hra)); rfl; rfl; rfl)
          have hb := (H1.out.2.alloc (.cells (tailA ⟨0, nu, ⟨ge, gc⟩⟩) TTail)).alloc (.cells (tailA ⟨0, nu, ⟨ge, gc⟩⟩) TTail)
          rw [World.size_alloc] at hb
          obtain ⟨E, hE⟩ : ∃ E, E = (ownT (.slice (some ⟨g9, 0, none⟩) (rs.length + 1) c9) rs * ownS (.slice ao10 rs.length cp10) rs) := ⟨_, rfl⟩
          have hst : RsSt w E size ⟨0, nu, ⟨ge, gc⟩⟩ m p w1.heap.size (w1.heap.size + 1) (.slice none 0 0) (.int .i64 0) ((w1.alloc (.cells (tailA ⟨0, nu, ⟨ge, gc⟩⟩) TTail)).alloc (.cells (tailA ⟨0, nu, ⟨ge, gc⟩⟩) TTail)) :=
            ⟨⟨0, S, ⟨0, nu, ⟨ge, gc⟩⟩, Nat.zero_le _, rfl, HR.out, (H1.out.1.alloc _).alloc _, by
              rw [hE]
              rw [List.take_zero, rs_p0]
              unfold ownS
              exact ownAt_nil.2 (hb.perm (by unfold ownS; ac_rfl))⟩⟩
          have HST := Lib.hid hst
          clear hst hb H1 hE hra HR
          generalize (w1.alloc (.cells (tailA ⟨0, nu, ⟨ge, gc⟩⟩) TTail)).alloc (.cells (tailA ⟨0, nu, ⟨ge, gc⟩⟩) TTail) = w2 at HST ⊢
          generalize hT1 : w1.heap.size + 1 = T at HST ⊢
          generalize w1.heap.size = A at HST ⊢
          clear hT1
          go_loopw [12, 13] (fun v12 v13 wr => RsSt w E size ⟨0, nu, ⟨ge, gc⟩⟩ m p A T v12 v13 wr) (fun _ v13 _ => m.length + 1 - (intOf v13).toNat)
          case atStart => exact HST.out
          case round =>
            obtain ⟨i, S, t, hi, rfl, hinv, hsm, hs⟩ := hrel.st
            clear hrel HST
            obtain ⟨tn, tu, ⟨tge, tgc⟩⟩ := t
            have hlen : (m.take i).length = i := by rw [List.length_take]; omega
            obtain ⟨ao12, cp12, rfl⟩ := ownAt_slice (hs.perm (rs_p0 _ _ _ _ _))
            rw [hlen] at hs ⊢
            have H1 := Lib.hid (And.intro hsm hs)
            clear hsm hs
            have hi40 : (i : Int) ≤ 40 := by have := HB.out.2.2.2.1; omega
            have hwr : IntKind.i64.wrap (i : Int) = (i : Int) := wrap_nat i (by omega)
            by_cases hlt : i < m.length
            · have hltd : decide ((i : Int) < (m.length : Int)) = true := decide_eq_true (by omega)
              obtain ⟨r, hr⟩ : ∃ r, m[i]? = some r := ⟨_, List.getElem?_eq_getElem hlt⟩
              obtain ⟨b0, off, rfl, hcl⟩ := str_cell HVM.out hr
              have HCL := Lib.hid hcl
              have HLT := Lib.hid hlt
              have hrl := HB.out.2.2.2.2 r (List.mem_of_getElem? hr)
              have HTAKE := Lib.hid (show m.take (i + 1) = m.take i ++ [r] from by rw [List.take_add_one, hr]; rfl)
              clear hcl hlt hr
              by_cases hz : appErr (cfgW size) 0 ⟨tn, tu, ⟨tge, tgc⟩⟩ ⟨2, (i : Int)⟩ r = 0
              · have hia := invR_app (r := r) hinv HB.out.1 HB.out.2.1 HNU.out (by rw [hlen]; omega) (by rw [hlen]; exact hz)
                rw [hlen] at hia
                obtain ⟨S', t', ha, hinv'⟩ := hia
                obtain ⟨sn, su, ⟨sge, sgc⟩⟩ := t'
                have HAP := Lib.hid (fun (X : HProp) (W : World) (h : Sat W (X * (shelfAt SH p S * old w))) => app_to ha hrl X W h)
                have HINV := Lib.hid hinv'
                have HLEN := Lib.hid hlen
                clear hz ha hinv' hrl hinv hlen
                go_upto_region 13 with (fail)
                replace H1 := Lib.hid (And.intro H1.out.1.drew H1.out.2.drew)
                have hS0 := And.intro (t_range ((H1.out.2).perm (star_assoc _ _ _))) (HCL.out _ (H1.out.2).right.right)
                refine reg_begin (fun w' => w'.rangeAt T 0 (tailA ⟨tn, tu, ⟨tge, tgc⟩⟩).toList ∧ w'.cell? ⟨b0, off + i * 1, none⟩ = some (.string (strB r))) (by kernel_rfl) ?_
                generalize wr.drew = w5 at H1 hS0 ⊢
                apply reg_cutT (K := fun g w' => Hid (Same w w' ∧ Sat w' (pts g (.cells (tailA ⟨sn, su, ⟨sge, sgc⟩⟩) TTail (0, 0)) * ((pts T (.cells (tailA ⟨tn, tu, ⟨tge, tgc⟩⟩) TTail (0, 0)) * (pts A (.cells (tailA ⟨0, nu, ⟨ge, gc⟩⟩) TTail (0, 0)) * (ownS (.slice ao12 i cp12) (m.take i) * E))) * (shelfAt SH p S' * old w)))))
                · skip
                  (apply reg_take 0 rfl rfl (by decide +kernel) rfl); (rintro w' ⟨h1, h2⟩; go_simp; rfl); exact hS0; simp only [List.setIfInBounds_toArray, List.set_cons_succ, List.set_cons_zero]
                  refine reg_take 1 (v := .agg (tailA ⟨tn, tu, ⟨tge, tgc⟩⟩)) rfl rfl (by decide +kernel) rfl (fun w' h => exec_load_tail rfl rfl h.1) hS0 ?_; simp only [List.setIfInBounds_toArray, List.set_cons_succ, List.set_cons_zero]
                  (apply reg_take 2 rfl rfl (by decide +kernel) rfl); (rintro w' ⟨h1, h2⟩; go_simp; rfl); exact hS0; simp only [List.setIfInBounds_toArray, List.set_cons_succ, List.set_cons_zero]
                  (apply reg_take 3 rfl rfl (by decide +kernel) rfl); (rintro w' ⟨h1, h2⟩; go_simp; rfl); exact hS0; simp only [List.setIfInBounds_toArray, List.set_cons_succ, List.set_cons_zero]
                  (apply reg_take 4 rfl rfl (by decide +kernel) rfl); (rintro w' ⟨h1, h2⟩; go_simp; rfl); exact hS0; simp only [List.setIfInBounds_toArray, List.set_cons_succ, List.set_cons_zero]
                  (apply reg_take 5 rfl rfl (by decide +kernel) rfl); (rintro w' ⟨h1, h2⟩; go_simp; rfl); exact hS0; simp only [List.setIfInBounds_toArray, List.set_cons_succ, List.set_cons_zero]
                  refine reg_take 6 (v := .pointer (some ⟨b0, off + i * 1, none⟩)) rfl rfl (by decide +kernel) rfl (fun w' h => exec_index_slice rfl rfl rfl Try.underlying22 HSI.out.1 HSI.out.2 HLT.out) hS0 ?_; simp only [List.setIfInBounds_toArray, List.set_cons_succ, List.set_cons_zero]
                  refine reg_take 7 (v := .string (strB r)) rfl rfl (by decide +kernel) rfl (fun w' h => exec_load_cell rfl rfl Try.underlying9 rfl h.2) hS0 ?_; simp only [List.setIfInBounds_toArray, List.set_cons_succ, List.set_cons_zero]
                  refine reg_fork 8 12 (by decide +kernel) ?_ ?_
                  · refine rstep_call rfl rfl (by decide +kernel) rfl (f := 15) (args := #[.pointer (some ⟨p, 0, none⟩), .int .i64 0, .agg (tailA ⟨tn, tu, ⟨tge, tgc⟩⟩), .agg (genA ⟨2, (i : Int)⟩), .string (strB r)]) (R := fun v w' => v = .tuple #[.agg (tailA ⟨sn, su, ⟨sge, sgc⟩⟩), .int .i64 0] ∧ Hid (Same w5 w' ∧ Sat w' ((pts T (.cells (tailA ⟨tn, tu, ⟨tge, tgc⟩⟩) TTail (0, 0)) * (pts A (.cells (tailA ⟨0, nu, ⟨ge, gc⟩⟩) TTail (0, 0)) * (ownS (.slice ao12 i cp12) (m.take i) * E))) * (shelfAt SH p S' * old w)))) (by kernel_rfl) ((HAP.out _ w5 H1.out.2).mono fun e w' h => ⟨_, h.1, rfl, h.2.out.1, h.2.out.2⟩) ?_
                    rintro _ w6 ⟨rfl, hx⟩
                    replace H1 := Lib.hid (And.intro (H1.out.1.trans hx.out.1) hx.out.2)
                    replace hS0 := And.intro (t_range ((H1.out.2).perm (star_assoc _ _ _))) (HCL.out _ (H1.out.2).right.right)
                    clear hx
                    refine ⟨hS0, ?_⟩
                    simp only [List.setIfInBounds_toArray, List.set_cons_succ, List.set_cons_zero]
                    (apply reg_take 9 rfl rfl (by decide +kernel) rfl); (rintro w' ⟨h1, h2⟩; go_simp; rfl); exact hS0; simp only [List.setIfInBounds_toArray, List.set_cons_succ, List.set_cons_zero]
                    (apply reg_take 10 rfl rfl (by decide +kernel) rfl); (rintro w' ⟨h1, h2⟩; go_simp; rfl); exact hS0; simp only [List.setIfInBounds_toArray, List.set_cons_succ, List.set_cons_zero]
                    (apply reg_take 11 rfl rfl (by decide +kernel) rfl); (rintro w' ⟨h1, h2⟩; go_simp; rfl); exact hS0; simp only [List.setIfInBounds_toArray, List.set_cons_succ, List.set_cons_zero]
                    refine reg_run 12 (.pointer (some ⟨w6.heap.size, 0, none⟩)) (w6.alloc (.cells zTail TTail)) rfl rfl (by decide +kernel) rfl (exec_alloc_zero rfl _ (zeroTail _)) (And.intro (t_range (((H1.out.2.alloc (.cells zTail TTail)).right).perm (star_assoc _ _ _))) (HCL.out _ ((H1.out.2.alloc (.cells zTail TTail)).right).right.right)) ?_; simp only [List.setIfInBounds_toArray, List.set_cons_succ, List.set_cons_zero]
                    replace H1 := Lib.hid (And.intro (H1.out.1.alloc (.cells zTail TTail)) (H1.out.2.alloc (.cells zTail TTail)))
                    generalize w6.alloc (.cells zTail TTail) = w7 at H1 ⊢
                    generalize w6.heap.size = g at H1 ⊢
                    replace hS0 := And.intro (t_range ((H1.out.2.right).perm (star_assoc _ _ _))) (HCL.out _ (H1.out.2.right).right.right)
                    refine reg_store_blk 13 (T := TTail) (old := zTail) (new := tailA ⟨sn, su, ⟨sge, sgc⟩⟩) rfl rfl (by decide +kernel) rfl rfl rfl rfl H1.out.2 (infoTail rfl) rfl (by simp [Value.oneCell']) ?_
                    intro w9 h9
                    replace H1 := Lib.hid (And.intro (H1.out.1.trans h9.out.1) h9.out.2)
                    replace hS0 := And.intro (t_range ((H1.out.2.right).perm (star_assoc _ _ _))) (HCL.out _ (H1.out.2.right).right.right)
                    clear h9
                    refine ⟨hS0, ?_⟩
                    (apply reg_take 14 rfl rfl (by decide +kernel) rfl); (rintro w' ⟨h1, h2⟩; go_simp; rfl); exact hS0; simp only [List.setIfInBounds_toArray, List.set_cons_succ, List.set_cons_zero]
                    refine reg_done (by decide +kernel) ?_
                    exact ⟨g, rfl, H1⟩
                  · refine rstep_run (.pointer (some ⟨w5.heap.size, 0, none⟩)) (w5.alloc (.cells zTail TTail)) rfl rfl (by decide +kernel) rfl (exec_alloc_zero rfl _ (zeroTail _)) (And.intro (t_range (((H1.out.2.alloc (.cells zTail TTail)).right).perm (star_assoc _ _ _))) (HCL.out _ ((H1.out.2.alloc (.cells zTail TTail)).right).right.right)) ?_; simp only [List.setIfInBounds_toArray, List.set_cons_succ, List.set_cons_zero]
                    replace H1 := Lib.hid (And.intro (H1.out.1.alloc (.cells zTail TTail)) (H1.out.2.alloc (.cells zTail TTail)))
                    generalize w5.alloc (.cells zTail TTail) = w6 at H1 ⊢
                    generalize w5.heap.size = g at H1 ⊢
                    replace hS0 := And.intro (t_range ((H1.out.2.right).perm (star_assoc _ _ _))) (HCL.out _ (H1.out.2.right).right.right)
                    refine reg_call 8 rfl rfl (by decide +kernel) rfl (f := 15) (args := #[.pointer (some ⟨p, 0, none⟩), .int .i64 0, .agg (tailA ⟨tn, tu, ⟨tge, tgc⟩⟩), .agg (genA ⟨2, (i : Int)⟩), .string (strB r)]) (R := fun v w' => v = .tuple #[.agg (tailA ⟨sn, su, ⟨sge, sgc⟩⟩), .int .i64 0] ∧ Hid (Same w6 w' ∧ Sat w' (pts g (.cells zTail TTail (0, 0)) * ((pts T (.cells (tailA ⟨tn, tu, ⟨tge, tgc⟩⟩) TTail (0, 0)) * (pts A (.cells (tailA ⟨0, nu, ⟨ge, gc⟩⟩) TTail (0, 0)) * (ownS (.slice ao12 i cp12) (m.take i) * E))) * (shelfAt SH p S' * old w))))) (by kernel_rfl) ((HAP.out _ w6 (H1.out.2.perm (star_assoc _ _ _).symm)).mono fun e w' h => ⟨_, h.1, rfl, h.2.out.1, h.2.out.2.perm (star_assoc _ _ _)⟩) ?_
                    rintro _ w7 ⟨rfl, hx⟩
                    replace H1 := Lib.hid (And.intro (H1.out.1.trans hx.out.1) hx.out.2)
                    replace hS0 := And.intro (t_range ((H1.out.2.right).perm (star_assoc _ _ _))) (HCL.out _ (H1.out.2.right).right.right)
                    clear hx
                    refine ⟨hS0, ?_⟩
                    simp only [List.setIfInBounds_toArray, List.set_cons_succ, List.set_cons_zero]
                    (apply reg_take 9 rfl rfl (by decide +kernel) rfl); (rintro w' ⟨h1, h2⟩; go_simp; rfl); exact hS0; simp only [List.setIfInBounds_toArray, List.set_cons_succ, List.set_cons_zero]
                    (apply reg_take 10 rfl rfl (by decide +kernel) rfl); (rintro w' ⟨h1, h2⟩; go_simp; rfl); exact hS0; simp only [List.setIfInBounds_toArray, List.set_cons_succ, List.set_cons_zero]
                    (apply reg_take 11 rfl rfl (by decide +kernel) rfl); (rintro w' ⟨h1, h2⟩; go_simp; rfl); exact hS0; simp only [List.setIfInBounds_toArray, List.set_cons_succ, List.set_cons_zero]
                    refine reg_store_blk 13 (T := TTail) (old := zTail) (new := tailA ⟨sn, su, ⟨sge, sgc⟩⟩) rfl rfl (by decide +kernel) rfl rfl rfl rfl H1.out.2 (infoTail rfl) rfl (by simp [Value.oneCell']) ?_
                    intro w9 h9
                    replace H1 := Lib.hid (And.intro (H1.out.1.trans h9.out.1) h9.out.2)
                    replace hS0 := And.intro (t_range ((H1.out.2.right).perm (star_assoc _ _ _))) (HCL.out _ (H1.out.2.right).right.right)
                    clear h9
                    refine ⟨hS0, ?_⟩
                    (apply reg_take 14 rfl rfl (by decide +kernel) rfl); (rintro w' ⟨h1, h2⟩; go_simp; rfl); exact hS0; simp only [List.setIfInBounds_toArray, List.set_cons_succ, List.set_cons_zero]
                    refine reg_done (by decide +kernel) ?_
                    exact ⟨g, rfl, H1⟩
                intro g w6 H1
                try dsimp only
                clear hS0
                obtain ⟨g0, g1, g2, g3, lg⟩ := t4 H1.out.2
                obtain ⟨f0, f1, f2, f3⟩ := t_thawed (H1.out.2.perm (rs_p1 _ _ _ _ _ _))
                obtain ⟨t0, t1, t2, t3, lt⟩ := t4 (H1.out.2.perm (rs_p1 _ _ _ _ _ _))
                go_upto_region 16 with (fail)
                obtain ⟨hm', hs'⟩ := t_put H1.out.1 (H1.out.2.perm (rs_p1 _ _ _ _ _ _)) sn su sge sgc
                replace H1 := Lib.hid (And.intro hm' (hs'.perm (rs_p2 _ _ _ _ _ _)))
                clear hm' hs' g0 g1 g2 g3 lg f0 f1 f2 f3 t0 t1 t2 t3 lt
                generalize (((w6.setCell ⟨T, 0, none⟩ (.int .i64 sn)).setCell ⟨T, 1, none⟩ (.int .i64 su)).setCell ⟨T, 2, none⟩ (.int .i64 sge)).setCell ⟨T, 3, none⟩ (.int .i64 sgc) = w7 at H1 ⊢
                have hc7 := HCL.out _ (H1.out.2.right.right.right.right)
                rw [Nat.mul_one] at hc7
                have hlt' := HLT.out
                go_wp2_with (at_builtin; refine wpList_append_ownAt (F := pts g (.cells (tailA ⟨sn, su, ⟨sge, sgc⟩⟩) TTail (0, 0)) * ((pts T (.cells (tailA ⟨sn, su, ⟨sge, sgc⟩⟩) TTail (0, 0)) * (pts A (.cells (tailA ⟨0, nu, ⟨ge, gc⟩⟩) TTail (0, 0)) * E)) * (shelfAt SH p S' * old w))) rfl _ _ 22 TString rfl si _ Try.underlying22 HSI.out.1 HSB.out.1 HSI.out.2 HSB.out.2 rfl (H1.out.2.allocKeep _) [.string (strB r)] rfl rfl rfl ?_ (by simp [Value.oneCell']) (by have := HLEN.out; unfold maxLen; omega) (by have := HLEN.out; omega) ?_)
                · intro j u hu
                  match j, hu with
                  | 0, hu => rw [Addr.add_mid, cells_at (heap_alloc_new _ _)]; simpa using hu
                intro v'' w8 h8
                have h9 : Sat w8 (ownS v'' (m.take i ++ [r]) * (pts g (.cells (tailA ⟨sn, su, ⟨sge, sgc⟩⟩) TTail (0, 0)) * ((pts T (.cells (tailA ⟨sn, su, ⟨sge, sgc⟩⟩) TTail (0, 0)) * (pts A (.cells (tailA ⟨0, nu, ⟨ge, gc⟩⟩) TTail (0, 0)) * E)) * (shelfAt SH p S' * old w)))) := by
                  rw [← ownS_snoc, HLEN.out]
                  exact h8.out.2
                replace H1 := Lib.hid (And.intro ((H1.out.1.alloc _).trans h8.out.1) h9)
                clear h8 h9
                go_wp2
                go_roundw
                case rel =>
                  refine ⟨⟨i + 1, S', ⟨sn, su, ⟨sge, sgc⟩⟩, hlt', rfl, ?_, H1.out.1, ?_⟩⟩
                  · rw [HTAKE.out]; exact HINV.out
                  · rw [HTAKE.out]
                    exact (H1.out.2.perm (rs_p3 _ _ _ _ _ _)).right
                case measure => simp only [intOf]; omega
              · have ha := appM_err (S := S) hinv.fine.cfg hz
                obtain ⟨er, her⟩ : ∃ er, appErr (cfgW size) 0 ⟨tn, tu, ⟨tge, tgc⟩⟩ ⟨2, (i : Int)⟩ r = er := ⟨_, rfl⟩
                rw [her] at ha
                have HAP := Lib.hid (fun (X : HProp) (W : World) (h : Sat W (X * (shelfAt SH p S * old w))) => app_to ha hrl X W h)
                have her0 : (er != 0) = true := by simpa [bne, her] using hz
                have HSC := Lib.hid (rs_scan (p := p) hinv HB.out.1 HB.out.2.1 (by rw [hlen]; omega) HFV.out)
                clear her hz ha hrl hinv hlen
                go_upto_region 13 with (fail)
                replace H1 := Lib.hid (And.intro H1.out.1.drew H1.out.2.drew)
                have hS0 := And.intro (t_range ((H1.out.2).perm (star_assoc _ _ _))) (HCL.out _ (H1.out.2).right.right)
                refine reg_begin (fun w' => w'.rangeAt T 0 (tailA ⟨tn, tu, ⟨tge, tgc⟩⟩).toList ∧ w'.cell? ⟨b0, off + i * 1, none⟩ = some (.string (strB r))) (by kernel_rfl) ?_
                generalize wr.drew = w5 at H1 hS0 ⊢
                apply reg_cutT (K := fun g w' => Hid (Same w w' ∧ Sat w' (pts g (.cells (tailA noTail) TTail (0, 0)) * ((pts T (.cells (tailA ⟨tn, tu, ⟨tge, tgc⟩⟩) TTail (0, 0)) * (pts A (.cells (tailA ⟨0, nu, ⟨ge, gc⟩⟩) TTail (0, 0)) * (ownS (.slice ao12 i cp12) (m.take i) * E))) * (shelfAt SH p S * old w)))))
                · skip
                  (apply reg_take 0 rfl rfl (by decide +kernel) rfl); (rintro w' ⟨h1, h2⟩; go_simp; rfl); exact hS0; simp only [List.setIfInBounds_toArray, List.set_cons_succ, List.set_cons_zero]
                  refine reg_take 1 (v := .agg (tailA ⟨tn, tu, ⟨tge, tgc⟩⟩)) rfl rfl (by decide +kernel) rfl (fun w' h => exec_load_tail rfl rfl h.1) hS0 ?_; simp only [List.setIfInBounds_toArray, List.set_cons_succ, List.set_cons_zero]
                  (apply reg_take 2 rfl rfl (by decide +kernel) rfl); (rintro w' ⟨h1, h2⟩; go_simp; rfl); exact hS0; simp only [List.setIfInBounds_toArray, List.set_cons_succ, List.set_cons_zero]
                  (apply reg_take 3 rfl rfl (by decide +kernel) rfl); (rintro w' ⟨h1, h2⟩; go_simp; rfl); exact hS0; simp only [List.setIfInBounds_toArray, List.set_cons_succ, List.set_cons_zero]
                  (apply reg_take 4 rfl rfl (by decide +kernel) rfl); (rintro w' ⟨h1, h2⟩; go_simp; rfl); exact hS0; simp only [List.setIfInBounds_toArray, List.set_cons_succ, List.set_cons_zero]
                  (apply reg_take 5 rfl rfl (by decide +kernel) rfl); (rintro w' ⟨h1, h2⟩; go_simp; rfl); exact hS0; simp only [List.setIfInBounds_toArray, List.set_cons_succ, List.set_cons_zero]
                  refine reg_take 6 (v := .pointer (some ⟨b0, off + i * 1, none⟩)) rfl rfl (by decide +kernel) rfl (fun w' h => exec_index_slice rfl rfl rfl Try.underlying22 HSI.out.1 HSI.out.2 HLT.out) hS0 ?_; simp only [List.setIfInBounds_toArray, List.set_cons_succ, List.set_cons_zero]
                  refine reg_take 7 (v := .string (strB r)) rfl rfl (by decide +kernel) rfl (fun w' h => exec_load_cell rfl rfl Try.underlying9 rfl h.2) hS0 ?_; simp only [List.setIfInBounds_toArray, List.set_cons_succ, List.set_cons_zero]
                  refine reg_fork 8 12 (by decide +kernel) ?_ ?_
                  · refine rstep_call rfl rfl (by decide +kernel) rfl (f := 15) (args := #[.pointer (some ⟨p, 0, none⟩), .int .i64 0, .agg (tailA ⟨tn, tu, ⟨tge, tgc⟩⟩), .agg (genA ⟨2, (i : Int)⟩), .string (strB r)]) (R := fun v w' => v = .tuple #[.agg (tailA noTail), .int .i64 er] ∧ Hid (Same w5 w' ∧ Sat w' ((pts T (.cells (tailA ⟨tn, tu, ⟨tge, tgc⟩⟩) TTail (0, 0)) * (pts A (.cells (tailA ⟨0, nu, ⟨ge, gc⟩⟩) TTail (0, 0)) * (ownS (.slice ao12 i cp12) (m.take i) * E))) * (shelfAt SH p S * old w)))) (by kernel_rfl) ((HAP.out _ w5 H1.out.2).mono fun e w' h => ⟨_, h.1, rfl, h.2.out.1, h.2.out.2⟩) ?_
                    rintro _ w6 ⟨rfl, hx⟩
                    replace H1 := Lib.hid (And.intro (H1.out.1.trans hx.out.1) hx.out.2)
                    replace hS0 := And.intro (t_range ((H1.out.2).perm (star_assoc _ _ _))) (HCL.out _ (H1.out.2).right.right)
                    clear hx
                    refine ⟨hS0, ?_⟩
                    simp only [List.setIfInBounds_toArray, List.set_cons_succ, List.set_cons_zero]
                    (apply reg_take 9 rfl rfl (by decide +kernel) rfl); (rintro w' ⟨h1, h2⟩; go_simp; rfl); exact hS0; simp only [List.setIfInBounds_toArray, List.set_cons_succ, List.set_cons_zero]
                    (apply reg_take 10 rfl rfl (by decide +kernel) rfl); (rintro w' ⟨h1, h2⟩; go_simp; rfl); exact hS0; simp only [List.setIfInBounds_toArray, List.set_cons_succ, List.set_cons_zero]
                    (apply reg_take 11 rfl rfl (by decide +kernel) rfl); (rintro w' ⟨h1, h2⟩; go_simp; rfl); exact hS0; simp only [List.setIfInBounds_toArray, List.set_cons_succ, List.set_cons_zero]
                    refine reg_run 12 (.pointer (some ⟨w6.heap.size, 0, none⟩)) (w6.alloc (.cells zTail TTail)) rfl rfl (by decide +kernel) rfl (exec_alloc_zero rfl _ (zeroTail _)) (And.intro (t_range (((H1.out.2.alloc (.cells zTail TTail)).right).perm (star_assoc _ _ _))) (HCL.out _ ((H1.out.2.alloc (.cells zTail TTail)).right).right.right)) ?_; simp only [List.setIfInBounds_toArray, List.set_cons_succ, List.set_cons_zero]
                    replace H1 := Lib.hid (And.intro (H1.out.1.alloc (.cells zTail TTail)) (H1.out.2.alloc (.cells zTail TTail)))
                    generalize w6.alloc (.cells zTail TTail) = w7 at H1 ⊢
                    generalize w6.heap.size = g at H1 ⊢
                    replace hS0 := And.intro (t_range ((H1.out.2.right).perm (star_assoc _ _ _))) (HCL.out _ (H1.out.2.right).right.right)
                    refine reg_store_blk 13 (T := TTail) (old := zTail) (new := tailA noTail) rfl rfl (by decide +kernel) rfl rfl rfl rfl H1.out.2 (infoTail rfl) rfl (by simp [Value.oneCell']) ?_
                    intro w9 h9
                    replace H1 := Lib.hid (And.intro (H1.out.1.trans h9.out.1) h9.out.2)
                    replace hS0 := And.intro (t_range ((H1.out.2.right).perm (star_assoc _ _ _))) (HCL.out _ (H1.out.2.right).right.right)
                    clear h9
                    refine ⟨hS0, ?_⟩
                    (apply reg_take 14 rfl rfl (by decide +kernel) rfl); (rintro w' ⟨h1, h2⟩; go_simp; rfl); exact hS0; simp only [List.setIfInBounds_toArray, List.set_cons_succ, List.set_cons_zero]
                    refine reg_done (by decide +kernel) ?_
                    exact ⟨g, rfl, H1⟩
                  · refine rstep_run (.pointer (some ⟨w5.heap.size, 0, none⟩)) (w5.alloc (.cells zTail TTail)) rfl rfl (by decide +kernel) rfl (exec_alloc_zero rfl _ (zeroTail _)) (And.intro (t_range (((H1.out.2.alloc (.cells zTail TTail)).right).perm (star_assoc _ _ _))) (HCL.out _ ((H1.out.2.alloc (.cells zTail TTail)).right).right.right)) ?_; simp only [List.setIfInBounds_toArray, List.set_cons_succ, List.set_cons_zero]
                    replace H1 := Lib.hid (And.intro (H1.out.1.alloc (.cells zTail TTail)) (H1.out.2.alloc (.cells zTail TTail)))
                    generalize w5.alloc (.cells zTail TTail) = w6 at H1 ⊢
                    generalize w5.heap.size = g at H1 ⊢
                    replace hS0 := And.intro (t_range ((H1.out.2.right).perm (star_assoc _ _ _))) (HCL.out _ (H1.out.2.right).right.right)
                    refine reg_call 8 rfl rfl (by decide +kernel) rfl (f := 15) (args := #[.pointer (some ⟨p, 0, none⟩), .int .i64 0, .agg (tailA ⟨tn, tu, ⟨tge, tgc⟩⟩), .agg (genA ⟨2, (i : Int)⟩), .string (strB r)]) (R := fun v w' => v = .tuple #[.agg (tailA noTail), .int .i64 er] ∧ Hid (Same w6 w' ∧ Sat w' (pts g (.cells zTail TTail (0, 0)) * ((pts T (.cells (tailA ⟨tn, tu, ⟨tge, tgc⟩⟩) TTail (0, 0)) * (pts A (.cells (tailA ⟨0, nu, ⟨ge, gc⟩⟩) TTail (0, 0)) * (ownS (.slice ao12 i cp12) (m.take i) * E))) * (shelfAt SH p S * old w))))) (by kernel_rfl) ((HAP.out _ w6 (H1.out.2.perm (star_assoc _ _ _).symm)).mono fun e w' h => ⟨_, h.1, rfl, h.2.out.1, h.2.out.2.perm (star_assoc _ _ _)⟩) ?_
                    rintro _ w7 ⟨rfl, hx⟩
                    replace H1 := Lib.hid (And.intro (H1.out.1.trans hx.out.1) hx.out.2)
                    replace hS0 := And.intro (t_range ((H1.out.2.right).perm (star_assoc _ _ _))) (HCL.out _ (H1.out.2.right).right.right)
                    clear hx
                    refine ⟨hS0, ?_⟩
                    simp only [List.setIfInBounds_toArray, List.set_cons_succ, List.set_cons_zero]
                    (apply reg_take 9 rfl rfl (by decide +kernel) rfl); (rintro w' ⟨h1, h2⟩; go_simp; rfl); exact hS0; simp only [List.setIfInBounds_toArray, List.set_cons_succ, List.set_cons_zero]
                    (apply reg_take 10 rfl rfl (by decide +kernel) rfl); (rintro w' ⟨h1, h2⟩; go_simp; rfl); exact hS0; simp only [List.setIfInBounds_toArray, List.set_cons_succ, List.set_cons_zero]
                    (apply reg_take 11 rfl rfl (by decide +kernel) rfl); (rintro w' ⟨h1, h2⟩; go_simp; rfl); exact hS0; simp only [List.setIfInBounds_toArray, List.set_cons_succ, List.set_cons_zero]
                    refine reg_store_blk 13 (T := TTail) (old := zTail) (new := tailA noTail) rfl rfl (by decide +kernel) rfl rfl rfl rfl H1.out.2 (infoTail rfl) rfl (by simp [Value.oneCell']) ?_
                    intro w9 h9
                    replace H1 := Lib.hid (And.intro (H1.out.1.trans h9.out.1) h9.out.2)
                    replace hS0 := And.intro (t_range ((H1.out.2.right).perm (star_assoc _ _ _))) (HCL.out _ (H1.out.2.right).right.right)
                    clear h9
                    refine ⟨hS0, ?_⟩
                    (apply reg_take 14 rfl rfl (by decide +kernel) rfl); (rintro w' ⟨h1, h2⟩; go_simp; rfl); exact hS0; simp only [List.setIfInBounds_toArray, List.set_cons_succ, List.set_cons_zero]
                    refine reg_done (by decide +kernel) ?_
                    exact ⟨g, rfl, H1⟩
                intro g w6 H1
                try dsimp only
                clear hS0
                replace H1 := Lib.hid (And.intro H1.out.1 H1.out.2.right)
                have a4 := t4 (H1.out.2.perm (show _ = pts A (.cells (tailA ⟨0, nu, ⟨ge, gc⟩⟩) TTail (0, 0)) * (pts T (.cells (tailA ⟨tn, tu, ⟨tge, tgc⟩⟩) TTail (0, 0)) * (ownS (.slice ao12 i cp12) (m.take i) * (E * (shelfAt SH p S * old w)))) from by ac_rfl))
                obtain ⟨a0, a1, a2, a3, la⟩ := a4
                have hll9 := HB.out.2.2.2.1
                go_wp2_with (first
                  | (go_at_call 12; refine (HSC.out _ _ _ H1.out.2).mono ?_; rintro e w4 ⟨vo, rfl, h2⟩; replace H1 := Lib.hid (And.intro (H1.out.1.trans h2.out.1) h2.out.2); clear h2 a0 a1 a2 a3 la)
                  | (go_at_call 10; refine (HSAN.out _ _ ((H1.out.2.alloc (.cells (tailA ⟨tn, tu, ⟨tge, tgc⟩⟩) TTail)).perm rs_old)).mono ?_; rintro e w8 ⟨rfl, hx⟩; replace H1 := Lib.hid (And.intro ((H1.out.1.alloc _).trans hx.out.1) hx.out.2); clear hx; obtain ⟨⟨u0, u1, u2, u3, lu⟩, ⟨t0, t1, t2, t3, lt⟩, so, si⟩ := rs_facts H1.out.2)
                  | (go_at_call 14; refine (same18_any _ _ _ _ _ so si (by rw [List.length_map, List.length_take]; omega)).mono ?_; rintro e w9 ⟨rfl, hx⟩; replace H1 := Lib.hid (And.intro (H1.out.1.below hx) (H1.out.2.below hx)); clear hx u0 u1 u2 u3 lu t0 t1 t2 t3 lt so si; obtain ⟨⟨u0, u1, u2, u3, lu⟩, ⟨t0, t1, t2, t3, lt⟩, so, si⟩ := rs_facts H1.out.2)
                  | fail)
                all_goals
                  go_ret
                  exact ⟨rfl, H1.out.1.below_of H1.out.2⟩
            · have hltd : decide ((i : Int) < (m.length : Int)) = false := decide_eq_false (by omega)
              have HSC := Lib.hid (rs_scan (p := p) hinv HB.out.1 HB.out.2.1 (by rw [hlen]; omega) HFV.out)
              have hnlt : ¬ (i : Int) < (m.length : Int) := by omega
              clear hinv hlen
              have a4 := t4 (H1.out.2.perm (show _ = pts A (.cells (tailA ⟨0, nu, ⟨ge, gc⟩⟩) TTail (0, 0)) * (pts T (.cells (tailA ⟨tn, tu, ⟨tge, tgc⟩⟩) TTail (0, 0)) * (ownS (.slice ao12 i cp12) (m.take i) * (E * (shelfAt SH p S * old w)))) from by ac_rfl))
              obtain ⟨a0, a1, a2, a3, la⟩ := a4
              have hll9 := HB.out.2.2.2.1
              go_wp2_with (first
                | (go_at_call 12; refine (HSC.out _ _ _ H1.out.2).mono ?_; rintro e w4 ⟨vo, rfl, h2⟩; replace H1 := Lib.hid (And.intro (H1.out.1.trans h2.out.1) h2.out.2); clear h2 a0 a1 a2 a3 la)
                | (go_at_call 10; refine (HSAN.out _ _ ((H1.out.2.alloc (.cells (tailA ⟨tn, tu, ⟨tge, tgc⟩⟩) TTail)).perm rs_old)).mono ?_; rintro e w8 ⟨rfl, hx⟩; replace H1 := Lib.hid (And.intro ((H1.out.1.alloc _).trans hx.out.1) hx.out.2); clear hx; obtain ⟨⟨u0, u1, u2, u3, lu⟩, ⟨t0, t1, t2, t3, lt⟩, so, si⟩ := rs_facts H1.out.2)
                | (go_at_call 14; refine (same18_any _ _ _ _ _ so si (by rw [List.length_map, List.length_take]; omega)).mono ?_; rintro e w9 ⟨rfl, hx⟩; replace H1 := Lib.hid (And.intro (H1.out.1.below hx) (H1.out.2.below hx)); clear hx u0 u1 u2 u3 lu t0 t1 t2 t3 lt so si; obtain ⟨⟨u0, u1, u2, u3, lu⟩, ⟨t0, t1, t2, t3, lt⟩, so, si⟩ := rs_facts H1.out.2)
                | fail)
              all_goals
                go_ret
                exact ⟨rfl, H1.out.1.below_of H1.out.2⟩
        · skip
          clear hv hsz hvm hszm
          go_enter Try.func4, Try.ntmps4
          go_wp2_with (go_at_call 10; refine (HSAN.out emp _ HW.out).mono ?_; rintro e w1 ⟨rfl, h1⟩)
          go_ret
          exact ⟨rfl, h1.out.1.below_of h1.out.2⟩
      · skip
        clear hv hsz hvm hszm
        go_enter Try.func4, Try.ntmps4
        go_wp2_with (go_at_call 10; refine (HSAN.out emp _ HW.out).mono ?_; rintro e w1 ⟨rfl, h1⟩)
        go_ret
        exact ⟨rfl, h1.out.1.below_of h1.out.2⟩
    · skip
      clear hv hsz hvm hszm
      go_enter Try.func4, Try.ntmps4
      go_wp2_with (go_at_call 10; refine (HSAN.out emp _ HW.out).mono ?_; rintro e w1 ⟨rfl, h1⟩)
      go_ret
      exact ⟨rfl, h1.out.1.below_of h1.out.2⟩
  · skip
    clear hv hsz hvm hszm
    go_enter Try.func4, Try.ntmps4
    go_wp2_with (go_at_call 10; refine (HSAN.out emp _ HW.out).mono ?_; rintro e w1 ⟨rfl, h1⟩)
    go_ret
    exact ⟨rfl, h1.out.1.below_of h1.out.2⟩
end Go.Proofs.Ytbegomjbakidmaa

/- WalRestarts: its row. -/
namespace Go.Proofs.Ytbegomjbakidmaa
open Go.ChangeShapes Go.WideShapes Go.ChangeAt Go.RowKit Go.Sl Go.ChangeMaps
set_option maxRecDepth 100000 in
theorem walRestarts_lifted (os : Os) (started : os.Started) (H : Type) (enc : TypeId × Value → H) :
    ReturnsInHanded {} Try.checked os 4 .any (Rows.walRestartsSpec.pre6 enc Try.prog Try.f4 Rows.walRestartsRow.domain false) (Rows.walRestartsSpec.post enc Try.prog Try.f4 false true false false) := by
  refine returnsInHanded_of_change (C := Try.checked) law_own started (by kernel_rfl) Try.func4
    (ChangeSpec.witness6 (enc := enc) (C := Try.checked) false ⟨#[], #[.int .i64 0, .slice none 0 0, .slice none 0 0], []⟩ 8 (by kernel_rfl) (by kernel_rfl) (by kernel_rfl) (by kernel_rfl)) ?_
  intro W base args ds gs before hval0 hW _ _
  have hval : ∀ (j : Nat) t v, Try.f4.params[j]? = some t → args[j]? = some v → Value.okWide Try.prog W .any base t v := hval0
  have hW' := hW
  obtain ⟨p, q, hA0, hV, rfl, _, _⟩ := hW
  have hA : DataW.TrodAll enc Try.prog W 0 (fun _ => true) true Try.f4.params.toList args.toList ds p := hA0
  rw [Try.params4] at hA hval
  obtain ⟨w0, vs0, d0, ds0, p0, q0, hargs, rfl, rfl, h0, r0⟩ := trodAll_cons hA
  obtain ⟨w1, vs1, d1, ds1, p1, q1, rfl, rfl, rfl, h1, r1⟩ := trodAll_cons r0
  obtain ⟨w2, vs2, d2, ds2, p2, q2, rfl, rfl, rfl, h2, r2⟩ := trodAll_cons r1
  obtain ⟨rfl, rfl, rfl⟩ := trodAll_nil r2
  obtain rfl : args = #[w0, w1, w2] := by cases args; simp_all
  obtain ⟨rfl, rfl⟩ := trodVars_none hV
  obtain ⟨b0, rfl, rfl, rfl, wf0⟩ := open_int Try.underlying3 (hval 0 3 w0 rfl rfl) h0
  obtain ⟨v1, l1, e1, s1, _, m1⟩ := rd_strs (trod_rd h1)
  obtain ⟨x1, y1, z1, rfl⟩ := okWide_slice Try.underlying22 (hval 1 _ w1 rfl rfl)
  obtain rfl : .slice x1 y1 z1 = v1 := by simpa [Value.cells] using e1
  obtain ⟨v2, l2, e2, s2, _, m2⟩ := rd_strs (trod_rd h2)
  obtain ⟨x2, y2, z2, rfl⟩ := okWide_slice Try.underlying22 (hval 2 _ w2 rfl rfl)
  obtain rfl : .slice x2 y2 z2 = v2 := by simpa [Value.cells] using e2
  refine (restarts_law _ _ _ _ _ W s1 m1 s2 m2).mono fun e W' ⟨he, hg⟩ => ?_
  subst he
  exact ⟨_, rfl, law_post (by kernel_rfl) rfl (of_decide_eq_true (by kernel_rfl)) rfl hW' hg⟩

theorem walRestarts_holds : Rows.WalRestartsSaid :=
  OpenClaim.holds_of_wide 4 Try.f4 rfl rfl rfl rfl rfl rfl rfl ⟨rfl, rfl, rfl, rfl, rfl⟩ rfl rfl rfl rfl rfl (by kernel_rfl) Try.func4 (by kernel_rfl)
    (of_decide_eq_true (by kernel_rfl)) (by unfold Func.isWrapper; first | (rw [if_pos (by decide +kernel)]; kernel_rfl) | (rw [if_neg (by decide +kernel)]; exact ⟨rfl, rfl⟩))
    (fun os started H enc _ => walRestarts_lifted os started H enc)


end Go.Proofs.Ytbegomjbakidmaa
