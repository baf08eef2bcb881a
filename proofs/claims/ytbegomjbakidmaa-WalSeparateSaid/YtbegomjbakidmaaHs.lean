/- WalSeparate: its plain law and its walk. -/
import Derived.Test.YtbegomjbakidmaaHa
namespace Go.Proofs.Ytbegomjbakidmaa
open Go.RowKit Go.Sl Go.ChangeMaps

theorem separate_plain {size : Int} {S : ShelfM} {rs : List (List UInt8)} (h : InvK size S rs) (h1 : 1 ≤ size) (h2 : size ≤ 40) (hl : rs.length ≤ 40) (other : List UInt8) :
    ∃ (S' : ShelfM) (t' : TailM) (e : Int) (more : List (List UInt8)) (t1 : TailM), appM S 1 t0 ⟨1, 0⟩ other = (S', t', e) ∧ FineS (cfgW size) S' ∧ ScanL (conL S' 0) size.toNat 0 t0 rs (tailK rs rs.length) ∧ ScanL (conL S' 1) size.toNat 1 t0 more t1 ∧ ((e = 0 ∧ more = [other]) ∨ (e ≠ 0 ∧ more = [])) := by
  have hk : LogK (conL S 1) size.toNat 1 [] := LogK.nil fun j => by rw [h.other]; exact zsec_open _
  have hlog := hk.log (by omega) (by simp) (k := 0) (Nat.le_refl _)
  rw [tailK_zero, List.drop_nil, List.length_nil, tailK_zero] at hlog
  have hs0 := h.scan h1 h2 (by omega) (k := 0) (Nat.zero_le _)
  rw [tailK_zero, List.drop_zero] at hs0
  by_cases hz : appErr (cfgW size) 1 t0 ⟨1, 0⟩ other = 0
  · obtain ⟨S', e1, e2, e3, e4⟩ := appM_fine h.fine hz
    obtain ⟨⟨_, _, ht, hg⟩, hnew, hs, hfit⟩ := appErr_none hz
    rw [cfgW_logN h1] at hfit
    exact ⟨S', _, 0, [other], _, e1, e2, by rw [e4 0 (by decide)]; exact hs0, by rw [e3]; exact (hlog.app ⟨by decide, by decide⟩ (by omega) hg hnew hs (by omega) (by decide)).scan, .inl ⟨rfl, rfl⟩⟩
  · exact ⟨S, noTail, _, [], _, appM_err h.fine.cfg hz, h.fine, hs0, hlog.scan, .inr ⟨hz, rfl⟩⟩
def sepE (C B A : Nat) (tl t1 t' : TailM) (v1 v0 vT vI : Value) (more rs : List (List UInt8)) (X : HProp) : HProp := pts C (.cells (tailA t1) TTail (0, 0)) * ((ownS v1 more * (pts B (.cells (tailA tl) TTail (0, 0)) * (ownS v0 rs * (pts A (.cells (tailA t') TTail (0, 0)) * (ownT vT rs * ownS vI rs))))) * X)
theorem sep_facts {w : World} {C B A g c : Nat} {nx nu ge gc : Int} {t1 t' : TailM} {v1 v0 vI : Value} {more rs : List (List UInt8)} {X Y : HProp} (hT : tailK rs rs.length = ⟨nx, nu, ⟨ge, gc⟩⟩) (h : Sat w (sepE C B A ⟨nx, nu, ⟨ge, gc⟩⟩ t1 t' v1 v0 (.slice (some ⟨g, 0, none⟩) (rs.length + 1) c) vI more rs X * Y)) :
    (w.cell? ⟨B, 0, none⟩ = some (.int .i64 nx) ∧ w.cell? ⟨B, 1, none⟩ = some (.int .i64 nu) ∧ w.cell? ⟨B, 2, none⟩ = some (.int .i64 ge) ∧ w.cell? ⟨B, 3, none⟩ = some (.int .i64 gc) ∧ B < w.heap.size) ∧
    (w.cell? ⟨g, rs.length * 4, none⟩ = some (.int .i64 nx) ∧ w.cell? ⟨g, rs.length * 4 + 1, none⟩ = some (.int .i64 nu) ∧ w.cell? ⟨g, rs.length * 4 + 2, none⟩ = some (.int .i64 ge) ∧ w.cell? ⟨g, rs.length * 4 + 3, none⟩ = some (.int .i64 gc) ∧ g < w.heap.size) ∧
    StrsAt w v1 (more.map strB) ∧ StrsAt w v0 (rs.map strB) ∧ StrsAt w vI (rs.map strB) := by
  unfold sepE at h
  refine ⟨t4 (X := _) (h.perm (show _ = pts B (.cells (tailA ⟨nx, nu, ⟨ge, gc⟩⟩) TTail (0, 0)) * (pts C (.cells (tailA t1) TTail (0, 0)) * (ownS v1 more * (ownS v0 rs * (pts A (.cells (tailA t') TTail (0, 0)) * (ownT (.slice (some ⟨g, 0, none⟩) (rs.length + 1) c) rs * ownS vI rs)))) * (X * Y)) from by ac_rfl)),
    (by have h4 := ownT_c4 (h.perm (show _ = ownT (.slice (some ⟨g, 0, none⟩) (rs.length + 1) c) rs * (pts C (.cells (tailA t1) TTail (0, 0)) * (ownS v1 more * (ownS v0 rs * (pts A (.cells (tailA t') TTail (0, 0)) * (pts B (.cells (tailA ⟨nx, nu, ⟨ge, gc⟩⟩) TTail (0, 0)) * ownS vI rs)))) * (X * Y)) from by ac_rfl)) (Nat.le_refl _); rw [hT] at h4; exact h4), ?_, ?_, ?_⟩
  · exact ownS_strs (h.perm (show _ = ownS v1 more * (pts C (.cells (tailA t1) TTail (0, 0)) * (pts B (.cells (tailA ⟨nx, nu, ⟨ge, gc⟩⟩) TTail (0, 0)) * (ownS v0 rs * (pts A (.cells (tailA t') TTail (0, 0)) * (ownT (.slice (some ⟨g, 0, none⟩) (rs.length + 1) c) rs * ownS vI rs)))) * (X * Y)) from by ac_rfl))
  · exact ownS_strs (h.perm (show _ = ownS v0 rs * (pts C (.cells (tailA t1) TTail (0, 0)) * (pts B (.cells (tailA ⟨nx, nu, ⟨ge, gc⟩⟩) TTail (0, 0)) * (ownS v1 more * (pts A (.cells (tailA t') TTail (0, 0)) * (ownT (.slice (some ⟨g, 0, none⟩) (rs.length + 1) c) rs * ownS vI rs)))) * (X * Y)) from by ac_rfl))
  · exact ownS_strs (h.perm (show _ = ownS vI rs * (pts C (.cells (tailA t1) TTail (0, 0)) * (pts B (.cells (tailA ⟨nx, nu, ⟨ge, gc⟩⟩) TTail (0, 0)) * (ownS v1 more * (pts A (.cells (tailA t') TTail (0, 0)) * (ownT (.slice (some ⟨g, 0, none⟩) (rs.length + 1) c) rs * ownS v0 rs)))) * (X * Y)) from by ac_rfl))
theorem sep_range {w : World} {C B A g c : Nat} {nx nu ge gc : Int} {t1 t' : TailM} {v1 v0 vI : Value} {more rs : List (List UInt8)} {X Y : HProp} (hT : tailK rs rs.length = ⟨nx, nu, ⟨ge, gc⟩⟩) (h : Sat w (sepE C B A ⟨nx, nu, ⟨ge, gc⟩⟩ t1 t' v1 v0 (.slice (some ⟨g, 0, none⟩) (rs.length + 1) c) vI more rs X * Y)) :
    w.rangeAt B 0 (tailA ⟨nx, nu, ⟨ge, gc⟩⟩).toList ∧ w.rangeAt g (0 + rs.length * 4) (tailA ⟨nx, nu, ⟨ge, gc⟩⟩).toList := by
  unfold sepE at h
  constructor
  · have h1 := cells_at (h.perm (show _ = pts B (.cells (tailA ⟨nx, nu, ⟨ge, gc⟩⟩) TTail (0, 0)) * (pts C (.cells (tailA t1) TTail (0, 0)) * (ownS v1 more * (ownS v0 rs * (pts A (.cells (tailA t') TTail (0, 0)) * (ownT (.slice (some ⟨g, 0, none⟩) (rs.length + 1) c) rs * ownS vI rs)))) * (X * Y)) from by ac_rfl)).block
    intro j x hx
    rw [h1, Nat.zero_add]
    simpa using hx
  · have h4 := (ownT_at (h.perm (show _ = ownT (.slice (some ⟨g, 0, none⟩) (rs.length + 1) c) rs * (pts C (.cells (tailA t1) TTail (0, 0)) * (ownS v1 more * (ownS v0 rs * (pts A (.cells (tailA t') TTail (0, 0)) * (pts B (.cells (tailA ⟨nx, nu, ⟨ge, gc⟩⟩) TTail (0, 0)) * ownS vI rs)))) * (X * Y)) from by ac_rfl)) (Nat.le_refl _)).1
    rw [hT] at h4
    exact h4
theorem sep_old {C B A : Nat} {tl t1 t' : TailM} {v1 v0 vT vI : Value} {more rs : List (List UInt8)} (S W : HProp) : pts C (.cells (tailA t1) TTail (0, 0)) * ((ownS v1 more * (pts B (.cells (tailA tl) TTail (0, 0)) * (ownS v0 rs * (pts A (.cells (tailA t') TTail (0, 0)) * (ownT vT rs * ownS vI rs))))) * (S * W)) = sepE C B A tl t1 t' v1 v0 vT vI more rs S * W := by
  unfold sepE; ac_rfl
set_option maxHeartbeats 4000000 in
set_option maxRecDepth 100000 in
theorem separate_law (size : Int) (v : Value) (l : List (List UInt8)) (other : List UInt8) (w : World) (hv : StrsAt w v (List.map strB l)) (hsz : ∀ r ∈ l, r.length ≤ 9223372036854775807) (ho : other.length ≤ 9223372036854775807) :
    Calls Try.prog 5 #[.int .i64 size, v, .string (strB other)] w fun e w' => e = .returned (.bool true) ∧ Below w.heap.size w w' := by
  obtain ⟨ao, cap, rfl, _⟩ := id hv
  rw [List.length_map] at *
  have HSAN := Lib.hid (fun X W (h : Sat W (X * old w)) => sanity_old w W h)
  have HW := Lib.hid (show Sat w (emp * old w) from by rw [emp_star]; exact Sat.old w)
  cases d1 : decide (size < 1)
  · cases d2 : decide (40 < size)
    · cases d3 : decide ((40 : Int) < (l.length : Int))
      · skip
        have hs1 : 1 ≤ size := by have := of_decide_eq_false d1; omega
        have hs2 : size ≤ 40 := by have := of_decide_eq_false d2; omega
        have hll : l.length ≤ 40 := by have := of_decide_eq_false d3; omega
        have HLOG := Lib.hid (log_any size hs1 hs2 _ l hll hsz (old w) w (Sat.old w) (fun W hW => hv.old1 hW))
        have HB := Lib.hid (And.intro hs1 (And.intro hs2 (And.intro hll ho)))
        clear hv hsz hs1 hs2 hll ho
        go_enter Try.func5, Try.ntmps5
        go_upto_region 4 with (go_at_call 11; refine HLOG.out.mono ?_; rintro e w1 ⟨p, n, S, vt, vi, hn, hinv, _, rfl, h1⟩)
        have hlen : (l.take n).length = n := by rw [List.length_take]; omega
        have hn40 : n ≤ 40 := Nat.le_trans hn HB.out.2.2.1
        generalize l.take n = rs at hlen hinv h1
        subst hlen
        obtain ⟨g9, c9, rfl, _⟩ := ownT_open h1.out.2
        obtain ⟨ao10, cp10, rfl⟩ := ownAt_slice h1.out.2.right
        obtain ⟨S', t', er, more, t1, ha, hf, hsc0, hsc1, hor⟩ := separate_plain hinv HB.out.1 HB.out.2.1 hn40 other
        have hml : more.length ≤ 100000 := by rcases hor with ⟨_, rfl⟩ | ⟨_, rfl⟩ <;> simp
        have H1 := Lib.hid (And.intro h1.out.1 (h1.out.2.perm (star_assoc _ _ _).symm))
        have HAP := Lib.hid (fun X W h => app_to (p := p) (F := old w) ha HB.out.2.2.2 X W h)
        have HS0 := Lib.hid (fun X W h => scan_to (p := p) hf HB.out.1 HB.out.2.1 (d := 0) ⟨by decide, by decide⟩ hsc0 (by omega) X (old w) W h)
        have HS1 := Lib.hid (fun X W h => scan_to (p := p) hf HB.out.1 HB.out.2.1 (d := 1) ⟨by decide, by decide⟩ hsc1 hml X (old w) W h)
        have HOR := Lib.hid hor
        obtain ⟨nx, nu, ge, gc, hT⟩ : ∃ nx nu ge gc : Int, tailK rs rs.length = ⟨nx, nu, ⟨ge, gc⟩⟩ := ⟨_, _, _, _, rfl⟩
        rw [hT] at HS0
        have HT := Lib.hid hT
        clear hT
        clear h1 hinv hn ha hf hsc0 hsc1 hml hor
        go_upto_region 7 with (go_at_call 15; refine (HAP.out _ _ H1.out.2).mono ?_; rintro e w2 ⟨rfl, h2⟩; replace H1 := Lib.hid (And.intro (H1.out.1.trans h2.out.1) h2.out.2); clear h2)
        replace H1 := Lib.hid (And.intro (H1.out.1.alloc (.cells (tailA t') TTail)) ((H1.out.2.alloc (.cells (tailA t') TTail)).perm (star_assoc _ _ _).symm))
        generalize w2.alloc (.cells (tailA t') TTail) = w3 at H1 ⊢
        generalize w2.heap.size = A at H1 ⊢
        go_upto_region 8 with (go_at_call 12; refine (HS0.out _ _ H1.out.2).mono ?_; rintro e w4 ⟨v0, rfl, h2⟩; replace H1 := Lib.hid (And.intro (H1.out.1.trans h2.out.1) h2.out.2); clear h2)
        replace H1 := Lib.hid (And.intro (H1.out.1.alloc (.cells (tailA ⟨nx, nu, ⟨ge, gc⟩⟩) TTail)) ((H1.out.2.alloc (.cells (tailA ⟨nx, nu, ⟨ge, gc⟩⟩) TTail)).perm (star_assoc _ _ _).symm))
        generalize w4.alloc (.cells (tailA ⟨nx, nu, ⟨ge, gc⟩⟩) TTail) = w5 at H1 ⊢
        generalize w4.heap.size = B at H1 ⊢
        go_upto_region 9 with (go_at_call 12; refine (HS1.out _ _ H1.out.2).mono ?_; rintro e w6 ⟨v1, rfl, h2⟩; have h1v := h2.out.2.left; have h0v := h2.out.2.left.right.right; replace H1 := Lib.hid (And.intro (H1.out.1.trans h2.out.1) h2.out.2); clear h2)
        replace H1 := Lib.hid (And.intro (H1.out.1.alloc (.cells (tailA t1) TTail)) ((H1.out.2.alloc (.cells (tailA t1) TTail)).perm (sep_old _ _)))
        obtain ⟨ao12, cp12, rfl⟩ := ownAt_slice h0v
        obtain ⟨ao15, cp15, rfl⟩ := ownAt_slice h1v
        clear h0v h1v
        generalize w6.alloc (.cells (tailA t1) TTail) = w7 at H1 ⊢
        generalize w6.heap.size = C at H1 ⊢
        obtain ⟨⟨b0, b1, b2, b3, lb⟩, ⟨d0, d1, d2, d3, ld⟩, s1, s0, si⟩ := sep_facts HT.out H1.out.2
        have hwr : IntKind.i64.wrap (rs.length : Int) = (rs.length : Int) := wrap_nat rs.length (by omega)
        have hm40 : (List.map strB rs).length ≤ 4611686018427387904 := by rw [List.length_map]; omega
        have HM := Lib.hid hm40
        obtain ⟨ti, hti, hz0, hts, hz2⟩ := info_parts infoTail4
        have HTI := Lib.hid (And.intro hti hts)
        clear hti hz0 hts hz2 hm40
        rcases HOR.out with ⟨rfl, rfl⟩ | ⟨hne, rfl⟩
        · skip
          go_upto_region 9 with (fail)
          replace H1 := Lib.hid (And.intro H1.out.1.drew H1.out.2.drew)
          have hS0 := sep_range HT.out H1.out.2
          refine reg_begin (fun w' => w'.rangeAt B 0 (tailA ⟨nx, nu, ⟨ge, gc⟩⟩).toList ∧ w'.rangeAt g9 (0 + rs.length * 4) (tailA ⟨nx, nu, ⟨ge, gc⟩⟩).toList) (by kernel_rfl) ?_
          generalize w7.drew = w8 at H1 hS0 ⊢
          refine reg_call 0 rfl rfl (by decide +kernel) rfl (f := 10) (args := #[]) (R := fun v w' => v = .bool true ∧ Hid (Same w8 w' ∧ Sat w' (sepE C B A ⟨nx, nu, ⟨ge, gc⟩⟩ t1 t' (.slice ao15 [other].length cp15) (.slice ao12 rs.length cp12) (.slice (some ⟨g9, 0, none⟩) (rs.length + 1) c9) (.slice ao10 rs.length cp10) [other] rs (shelfAt SH p S' ) * old w))) (by kernel_rfl) ((HSAN.out _ _ H1.out.2).mono fun e w' h => ⟨_, h.1, rfl, h.2⟩) ?_
          rintro _ w9 ⟨rfl, hx⟩
          replace H1 := Lib.hid (And.intro (H1.out.1.trans hx.out.1) hx.out.2)
          clear hx
          replace hS0 := sep_range HT.out H1.out.2
          refine ⟨hS0, ?_⟩
          simp only [List.setIfInBounds_toArray, List.set_cons_succ, List.set_cons_zero]
          (apply reg_take 1 rfl rfl (by decide +kernel) rfl); (rintro w' ⟨h1, h2⟩; go_simp; rfl); exact hS0; simp only [List.setIfInBounds_toArray, List.set_cons_succ, List.set_cons_zero]
          (apply reg_take 2 rfl rfl (by decide +kernel) rfl); (rintro w' ⟨h1, h2⟩; go_simp; rfl); exact hS0; simp only [List.setIfInBounds_toArray, List.set_cons_succ, List.set_cons_zero]
          (apply reg_take 3 rfl rfl (by decide +kernel) rfl); (rintro w' ⟨h1, h2⟩; go_simp; rfl); exact hS0; simp only [List.setIfInBounds_toArray, List.set_cons_succ, List.set_cons_zero]
          (apply reg_take 4 rfl rfl (by decide +kernel) rfl); (rintro w' ⟨h1, h2⟩; go_simp; rfl); exact hS0; simp only [List.setIfInBounds_toArray, List.set_cons_succ, List.set_cons_zero]
          (apply reg_take 5 rfl rfl (by decide +kernel) rfl); (rintro w' ⟨h1, h2⟩; go_simp; rfl); exact hS0; simp only [List.setIfInBounds_toArray, List.set_cons_succ, List.set_cons_zero]
          refine reg_take 6 (v := .agg (tailA ⟨nx, nu, ⟨ge, gc⟩⟩)) rfl rfl (by decide +kernel) rfl (fun w' h => exec_load_tail rfl rfl h.1) hS0 ?_; simp only [List.setIfInBounds_toArray, List.set_cons_succ, List.set_cons_zero]
          (apply reg_take 7 rfl rfl (by decide +kernel) rfl); (rintro w' ⟨h1, h2⟩; go_simp; rfl); exact hS0; simp only [List.setIfInBounds_toArray, List.set_cons_succ, List.set_cons_zero]
          (apply reg_take 8 rfl rfl (by decide +kernel) rfl); (rintro w' ⟨h1, h2⟩; go_simp; rfl); exact hS0; simp only [List.setIfInBounds_toArray, List.set_cons_succ, List.set_cons_zero]
          (apply reg_take 9 rfl rfl (by decide +kernel) rfl); (rintro w' ⟨h1, h2⟩; go_simp; rfl); exact hS0; simp only [List.setIfInBounds_toArray, List.set_cons_succ, List.set_cons_zero]
          (apply reg_take 10 rfl rfl (by decide +kernel) rfl); (rintro w' ⟨h1, h2⟩; go_simp; rfl); exact hS0; simp only [List.setIfInBounds_toArray, List.set_cons_succ, List.set_cons_zero]
          refine reg_take 11 (v := .pointer (some ⟨g9, 0 + rs.length * 4, none⟩)) rfl rfl (by decide +kernel) rfl (fun w' h => exec_index_slice rfl rfl rfl Try.underlying25 HTI.out.1 HTI.out.2 (Nat.lt_succ_self _)) hS0 ?_; simp only [List.setIfInBounds_toArray, List.set_cons_succ, List.set_cons_zero]
          refine reg_take 12 (v := .agg (tailA ⟨nx, nu, ⟨ge, gc⟩⟩)) rfl rfl (by decide +kernel) rfl (fun w' h => exec_load_tail rfl rfl h.2) hS0 ?_; simp only [List.setIfInBounds_toArray, List.set_cons_succ, List.set_cons_zero]
          refine reg_take 13 (v := .bool true) rfl rfl (by decide +kernel) rfl (fun w' h => exec_eql_tail rfl rfl rfl) hS0 ?_; simp only [List.setIfInBounds_toArray, List.set_cons_succ, List.set_cons_zero]
          (apply reg_take 14 rfl rfl (by decide +kernel) rfl); (rintro w' ⟨h1, h2⟩; go_simp; rfl); exact hS0; simp only [List.setIfInBounds_toArray, List.set_cons_succ, List.set_cons_zero]
          (apply reg_take 15 rfl rfl (by decide +kernel) rfl); (rintro w' ⟨h1, h2⟩; go_simp; rfl); exact hS0; simp only [List.setIfInBounds_toArray, List.set_cons_succ, List.set_cons_zero]
          (apply reg_take 16 rfl rfl (by decide +kernel) rfl); (rintro w' ⟨h1, h2⟩; go_simp; rfl); exact hS0; simp only [List.setIfInBounds_toArray, List.set_cons_succ, List.set_cons_zero]
          (apply reg_take 17 rfl rfl (by decide +kernel) rfl); (rintro w' ⟨h1, h2⟩; go_simp; rfl); exact hS0; simp only [List.setIfInBounds_toArray, List.set_cons_succ, List.set_cons_zero]
          refine reg_call 18 rfl rfl (by decide +kernel) rfl (f := 14) (args := #[.slice ao12 rs.length cp12, .slice ao10 rs.length cp10]) (R := fun v w' => v = .bool true ∧ Hid (Same w9 w' ∧ Sat w' (sepE C B A ⟨nx, nu, ⟨ge, gc⟩⟩ t1 t' (.slice ao15 [other].length cp15) (.slice ao12 rs.length cp12) (.slice (some ⟨g9, 0, none⟩) (rs.length + 1) c9) (.slice ao10 rs.length cp10) [other] rs (shelfAt SH p S' ) * old w))) (by kernel_rfl) ((same18_any _ _ (rs.map strB) (rs.map strB) _ (sep_facts HT.out H1.out.2).2.2.2.1 (sep_facts HT.out H1.out.2).2.2.2.2 HM.out).mono fun e w' h => ⟨_, h.1, by simp, (Same.refl _).below h.2, H1.out.2.below h.2⟩) ?_
          rintro _ w10 ⟨rfl, hx⟩
          replace H1 := Lib.hid (And.intro (H1.out.1.trans hx.out.1) hx.out.2)
          clear hx
          replace hS0 := sep_range HT.out H1.out.2
          refine ⟨hS0, ?_⟩
          simp only [List.setIfInBounds_toArray, List.set_cons_succ, List.set_cons_zero]
          (apply reg_take 19 rfl rfl (by decide +kernel) rfl); (rintro w' ⟨h1, h2⟩; go_simp; rfl); exact hS0; simp only [List.setIfInBounds_toArray, List.set_cons_succ, List.set_cons_zero]
          (apply reg_take 20 rfl rfl (by decide +kernel) rfl); (rintro w' ⟨h1, h2⟩; go_simp; rfl); exact hS0; simp only [List.setIfInBounds_toArray, List.set_cons_succ, List.set_cons_zero]
          (apply reg_take 21 rfl rfl (by decide +kernel) rfl); (rintro w' ⟨h1, h2⟩; go_simp; rfl); exact hS0; simp only [List.setIfInBounds_toArray, List.set_cons_succ, List.set_cons_zero]
          (apply reg_take 22 rfl rfl (by decide +kernel) rfl); (rintro w' ⟨h1, h2⟩; go_simp; rfl); exact hS0; simp only [List.setIfInBounds_toArray, List.set_cons_succ, List.set_cons_zero]
          (apply reg_take 23 rfl rfl (by decide +kernel) rfl); (rintro w' ⟨h1, h2⟩; go_simp; rfl); exact hS0; simp only [List.setIfInBounds_toArray, List.set_cons_succ, List.set_cons_zero]
          (apply reg_take 24 rfl rfl (by decide +kernel) rfl); (rintro w' ⟨h1, h2⟩; go_simp; rfl); exact hS0; simp only [List.setIfInBounds_toArray, List.set_cons_succ, List.set_cons_zero]
          (apply reg_take 25 rfl rfl (by decide +kernel) rfl); (rintro w' ⟨h1, h2⟩; go_simp; rfl); exact hS0; simp only [List.setIfInBounds_toArray, List.set_cons_succ, List.set_cons_zero]
          (apply reg_take 26 rfl rfl (by decide +kernel) rfl); (rintro w' ⟨h1, h2⟩; go_simp; rfl); exact hS0; simp only [List.setIfInBounds_toArray, List.set_cons_succ, List.set_cons_zero]
          (apply reg_take 27 rfl rfl (by decide +kernel) rfl); (rintro w' ⟨h1, h2⟩; go_simp; rfl); exact hS0; simp only [List.setIfInBounds_toArray, List.set_cons_succ, List.set_cons_zero]
          (apply reg_skip 28 rfl rfl (by decide +kernel) rfl); exact hS0; simp only [List.setIfInBounds_toArray, List.set_cons_succ, List.set_cons_zero]
          (apply reg_skip 29 rfl rfl (by decide +kernel) rfl); exact hS0; simp only [List.setIfInBounds_toArray, List.set_cons_succ, List.set_cons_zero]
          (apply reg_skip 30 rfl rfl (by decide +kernel) rfl); exact hS0; simp only [List.setIfInBounds_toArray, List.set_cons_succ, List.set_cons_zero]
          (apply reg_take 31 rfl rfl (by decide +kernel) rfl); (rintro w' ⟨h1, h2⟩; go_simp; rfl); exact hS0; simp only [List.setIfInBounds_toArray, List.set_cons_succ, List.set_cons_zero]
          (apply reg_take 32 rfl rfl (by decide +kernel) rfl); (rintro w' ⟨h1, h2⟩; go_simp; rfl); exact hS0; simp only [List.setIfInBounds_toArray, List.set_cons_succ, List.set_cons_zero]
          (apply reg_take 33 rfl rfl (by decide +kernel) rfl); (rintro w' ⟨h1, h2⟩; go_simp; rfl); exact hS0; simp only [List.setIfInBounds_toArray, List.set_cons_succ, List.set_cons_zero]
          (apply reg_take 34 rfl rfl (by decide +kernel) rfl); (rintro w' ⟨h1, h2⟩; go_simp; rfl); exact hS0; simp only [List.setIfInBounds_toArray, List.set_cons_succ, List.set_cons_zero]
          (apply reg_take 35 rfl rfl (by decide +kernel) rfl); (rintro w' ⟨h1, h2⟩; go_simp; rfl); exact hS0; simp only [List.setIfInBounds_toArray, List.set_cons_succ, List.set_cons_zero]
          (apply reg_take 36 rfl rfl (by decide +kernel) rfl); (rintro w' ⟨h1, h2⟩; go_simp; rfl); exact hS0; simp only [List.setIfInBounds_toArray, List.set_cons_succ, List.set_cons_zero]
          (apply reg_take 37 rfl rfl (by decide +kernel) rfl); (rintro w' ⟨h1, h2⟩; go_simp; rfl); exact hS0; simp only [List.setIfInBounds_toArray, List.set_cons_succ, List.set_cons_zero]
          refine reg_run 38 (.slice (some ⟨w10.heap.size, 0, none⟩) 1 1) (w10.alloc (.cells #[.string (strB other)] TString)) rfl rfl (by decide +kernel) rfl (by go_simp) (sep_range HT.out (H1.out.2.allocKeep _)) ?_
          simp only [List.setIfInBounds_toArray, List.set_cons_succ, List.set_cons_zero]
          have hstr := one_strs w10 (strB other)
          replace H1 := Lib.hid (And.intro (H1.out.1.alloc (.cells #[.string (strB other)] TString)) (H1.out.2.allocKeep (.cells #[.string (strB other)] TString)))
          generalize w10.heap.size = G at hstr ⊢
          generalize w10.alloc (.cells #[.string (strB other)] TString) = w11 at H1 hstr ⊢
          replace hS0 := sep_range HT.out H1.out.2
          refine reg_call 39 rfl rfl (by decide +kernel) rfl (f := 14) (args := #[.slice ao15 1 cp15, .slice (some ⟨G, 0, none⟩) 1 1]) (R := fun v w' => v = .bool true ∧ Hid (Same w11 w' ∧ Sat w' (sepE C B A ⟨nx, nu, ⟨ge, gc⟩⟩ t1 t' (.slice ao15 [other].length cp15) (.slice ao12 rs.length cp12) (.slice (some ⟨g9, 0, none⟩) (rs.length + 1) c9) (.slice ao10 rs.length cp10) [other] rs (shelfAt SH p S' ) * old w))) (by kernel_rfl) ((same18_any _ _ [strB other] [strB other] _ (sep_facts HT.out H1.out.2).2.2.1 hstr (by simp)).mono fun e w' h => ⟨_, h.1, by simp, (Same.refl _).below h.2, H1.out.2.below h.2⟩) ?_
          rintro _ w12 ⟨rfl, hx⟩
          replace H1 := Lib.hid (And.intro (H1.out.1.trans hx.out.1) hx.out.2)
          clear hx
          replace hS0 := sep_range HT.out H1.out.2
          refine ⟨hS0, ?_⟩
          simp only [List.setIfInBounds_toArray, List.set_cons_succ, List.set_cons_zero]
          (apply reg_take 40 rfl rfl (by decide +kernel) rfl); (rintro w' ⟨h1, h2⟩; go_simp; rfl); exact hS0; simp only [List.setIfInBounds_toArray, List.set_cons_succ, List.set_cons_zero]
          (apply reg_take 41 rfl rfl (by decide +kernel) rfl); (rintro w' ⟨h1, h2⟩; go_simp; rfl); exact hS0; simp only [List.setIfInBounds_toArray, List.set_cons_succ, List.set_cons_zero]
          (apply reg_take 42 rfl rfl (by decide +kernel) rfl); (rintro w' ⟨h1, h2⟩; go_simp; rfl); exact hS0; simp only [List.setIfInBounds_toArray, List.set_cons_succ, List.set_cons_zero]
          (apply reg_take 43 rfl rfl (by decide +kernel) rfl); (rintro w' ⟨h1, h2⟩; go_simp; rfl); exact hS0; simp only [List.setIfInBounds_toArray, List.set_cons_succ, List.set_cons_zero]
          refine reg_done (by decide +kernel) ?_
          go_wp2
          go_ret
          exact ⟨rfl, H1.out.1.below_of H1.out.2⟩
        · have hne' : (er != 0) = true := by simpa [bne] using hne
          go_upto_region 9 with (fail)
          replace H1 := Lib.hid (And.intro H1.out.1.drew H1.out.2.drew)
          have hS0 := sep_range HT.out H1.out.2
          refine reg_begin (fun w' => w'.rangeAt B 0 (tailA ⟨nx, nu, ⟨ge, gc⟩⟩).toList ∧ w'.rangeAt g9 (0 + rs.length * 4) (tailA ⟨nx, nu, ⟨ge, gc⟩⟩).toList) (by kernel_rfl) ?_
          generalize w7.drew = w8 at H1 hS0 ⊢
          refine reg_call 0 rfl rfl (by decide +kernel) rfl (f := 10) (args := #[]) (R := fun v w' => v = .bool true ∧ Hid (Same w8 w' ∧ Sat w' (sepE C B A ⟨nx, nu, ⟨ge, gc⟩⟩ t1 t' (.slice ao15 ([] : List (List UInt8)).length cp15) (.slice ao12 rs.length cp12) (.slice (some ⟨g9, 0, none⟩) (rs.length + 1) c9) (.slice ao10 rs.length cp10) ([] : List (List UInt8)) rs (shelfAt SH p S' ) * old w))) (by kernel_rfl) ((HSAN.out _ _ H1.out.2).mono fun e w' h => ⟨_, h.1, rfl, h.2⟩) ?_
          rintro _ w9 ⟨rfl, hx⟩
          replace H1 := Lib.hid (And.intro (H1.out.1.trans hx.out.1) hx.out.2)
          clear hx
          replace hS0 := sep_range HT.out H1.out.2
          refine ⟨hS0, ?_⟩
          simp only [List.setIfInBounds_toArray, List.set_cons_succ, List.set_cons_zero]
          (apply reg_take 1 rfl rfl (by decide +kernel) rfl); (rintro w' ⟨h1, h2⟩; go_simp; rfl); exact hS0; simp only [List.setIfInBounds_toArray, List.set_cons_succ, List.set_cons_zero]
          (apply reg_take 2 rfl rfl (by decide +kernel) rfl); (rintro w' ⟨h1, h2⟩; go_simp; rfl); exact hS0; simp only [List.setIfInBounds_toArray, List.set_cons_succ, List.set_cons_zero]
          (apply reg_take 3 rfl rfl (by decide +kernel) rfl); (rintro w' ⟨h1, h2⟩; go_simp; rfl); exact hS0; simp only [List.setIfInBounds_toArray, List.set_cons_succ, List.set_cons_zero]
          (apply reg_take 4 rfl rfl (by decide +kernel) rfl); (rintro w' ⟨h1, h2⟩; go_simp; rfl); exact hS0; simp only [List.setIfInBounds_toArray, List.set_cons_succ, List.set_cons_zero]
          (apply reg_take 5 rfl rfl (by decide +kernel) rfl); (rintro w' ⟨h1, h2⟩; go_simp; rfl); exact hS0; simp only [List.setIfInBounds_toArray, List.set_cons_succ, List.set_cons_zero]
          refine reg_take 6 (v := .agg (tailA ⟨nx, nu, ⟨ge, gc⟩⟩)) rfl rfl (by decide +kernel) rfl (fun w' h => exec_load_tail rfl rfl h.1) hS0 ?_; simp only [List.setIfInBounds_toArray, List.set_cons_succ, List.set_cons_zero]
          (apply reg_take 7 rfl rfl (by decide +kernel) rfl); (rintro w' ⟨h1, h2⟩; go_simp; rfl); exact hS0; simp only [List.setIfInBounds_toArray, List.set_cons_succ, List.set_cons_zero]
          (apply reg_take 8 rfl rfl (by decide +kernel) rfl); (rintro w' ⟨h1, h2⟩; go_simp; rfl); exact hS0; simp only [List.setIfInBounds_toArray, List.set_cons_succ, List.set_cons_zero]
          (apply reg_take 9 rfl rfl (by decide +kernel) rfl); (rintro w' ⟨h1, h2⟩; go_simp; rfl); exact hS0; simp only [List.setIfInBounds_toArray, List.set_cons_succ, List.set_cons_zero]
          (apply reg_take 10 rfl rfl (by decide +kernel) rfl); (rintro w' ⟨h1, h2⟩; go_simp; rfl); exact hS0; simp only [List.setIfInBounds_toArray, List.set_cons_succ, List.set_cons_zero]
          refine reg_take 11 (v := .pointer (some ⟨g9, 0 + rs.length * 4, none⟩)) rfl rfl (by decide +kernel) rfl (fun w' h => exec_index_slice rfl rfl rfl Try.underlying25 HTI.out.1 HTI.out.2 (Nat.lt_succ_self _)) hS0 ?_; simp only [List.setIfInBounds_toArray, List.set_cons_succ, List.set_cons_zero]
          refine reg_take 12 (v := .agg (tailA ⟨nx, nu, ⟨ge, gc⟩⟩)) rfl rfl (by decide +kernel) rfl (fun w' h => exec_load_tail rfl rfl h.2) hS0 ?_; simp only [List.setIfInBounds_toArray, List.set_cons_succ, List.set_cons_zero]
          refine reg_take 13 (v := .bool true) rfl rfl (by decide +kernel) rfl (fun w' h => exec_eql_tail rfl rfl rfl) hS0 ?_; simp only [List.setIfInBounds_toArray, List.set_cons_succ, List.set_cons_zero]
          (apply reg_take 14 rfl rfl (by decide +kernel) rfl); (rintro w' ⟨h1, h2⟩; go_simp; rfl); exact hS0; simp only [List.setIfInBounds_toArray, List.set_cons_succ, List.set_cons_zero]
          (apply reg_take 15 rfl rfl (by decide +kernel) rfl); (rintro w' ⟨h1, h2⟩; go_simp; rfl); exact hS0; simp only [List.setIfInBounds_toArray, List.set_cons_succ, List.set_cons_zero]
          (apply reg_take 16 rfl rfl (by decide +kernel) rfl); (rintro w' ⟨h1, h2⟩; go_simp; rfl); exact hS0; simp only [List.setIfInBounds_toArray, List.set_cons_succ, List.set_cons_zero]
          (apply reg_take 17 rfl rfl (by decide +kernel) rfl); (rintro w' ⟨h1, h2⟩; go_simp; rfl); exact hS0; simp only [List.setIfInBounds_toArray, List.set_cons_succ, List.set_cons_zero]
          refine reg_call 18 rfl rfl (by decide +kernel) rfl (f := 14) (args := #[.slice ao12 rs.length cp12, .slice ao10 rs.length cp10]) (R := fun v w' => v = .bool true ∧ Hid (Same w9 w' ∧ Sat w' (sepE C B A ⟨nx, nu, ⟨ge, gc⟩⟩ t1 t' (.slice ao15 ([] : List (List UInt8)).length cp15) (.slice ao12 rs.length cp12) (.slice (some ⟨g9, 0, none⟩) (rs.length + 1) c9) (.slice ao10 rs.length cp10) ([] : List (List UInt8)) rs (shelfAt SH p S' ) * old w))) (by kernel_rfl) ((same18_any _ _ (rs.map strB) (rs.map strB) _ (sep_facts HT.out H1.out.2).2.2.2.1 (sep_facts HT.out H1.out.2).2.2.2.2 HM.out).mono fun e w' h => ⟨_, h.1, by simp, (Same.refl _).below h.2, H1.out.2.below h.2⟩) ?_
          rintro _ w10 ⟨rfl, hx⟩
          replace H1 := Lib.hid (And.intro (H1.out.1.trans hx.out.1) hx.out.2)
          clear hx
          replace hS0 := sep_range HT.out H1.out.2
          refine ⟨hS0, ?_⟩
          simp only [List.setIfInBounds_toArray, List.set_cons_succ, List.set_cons_zero]
          (apply reg_take 19 rfl rfl (by decide +kernel) rfl); (rintro w' ⟨h1, h2⟩; go_simp; rfl); exact hS0; simp only [List.setIfInBounds_toArray, List.set_cons_succ, List.set_cons_zero]
          (apply reg_take 20 rfl rfl (by decide +kernel) rfl); (rintro w' ⟨h1, h2⟩; go_simp; rfl); exact hS0; simp only [List.setIfInBounds_toArray, List.set_cons_succ, List.set_cons_zero]
          (apply reg_take 21 rfl rfl (by decide +kernel) rfl); (rintro w' ⟨h1, h2⟩; go_simp; rfl); exact hS0; simp only [List.setIfInBounds_toArray, List.set_cons_succ, List.set_cons_zero]
          (apply reg_take 22 rfl rfl (by decide +kernel) rfl); (rintro w' ⟨h1, h2⟩; go_simp; rfl); exact hS0; simp only [List.setIfInBounds_toArray, List.set_cons_succ, List.set_cons_zero]
          (apply reg_take 23 rfl rfl (by decide +kernel) rfl); (rintro w' ⟨h1, h2⟩; go_simp; rfl); exact hS0; simp only [List.setIfInBounds_toArray, List.set_cons_succ, List.set_cons_zero]
          (apply reg_take 24 rfl rfl (by decide +kernel) rfl); (rintro w' ⟨h1, h2⟩; go_simp; rfl); exact hS0; simp only [List.setIfInBounds_toArray, List.set_cons_succ, List.set_cons_zero]
          (apply reg_take 25 rfl rfl (by decide +kernel) rfl); (rintro w' ⟨h1, h2⟩; go_simp; rfl); exact hS0; simp only [List.setIfInBounds_toArray, List.set_cons_succ, List.set_cons_zero]
          (apply reg_take 26 rfl rfl (by decide +kernel) rfl); (rintro w' ⟨h1, h2⟩; go_simp; rfl); exact hS0; simp only [List.setIfInBounds_toArray, List.set_cons_succ, List.set_cons_zero]
          (apply reg_take 27 rfl rfl (by decide +kernel) rfl); (rintro w' ⟨h1, h2⟩; go_simp; rfl); exact hS0; simp only [List.setIfInBounds_toArray, List.set_cons_succ, List.set_cons_zero]
          (apply reg_take 28 rfl rfl (by decide +kernel) rfl); (rintro w' ⟨h1, h2⟩; go_simp; rfl); exact hS0; simp only [List.setIfInBounds_toArray, List.set_cons_succ, List.set_cons_zero]
          (apply reg_take 29 rfl rfl (by decide +kernel) rfl); (rintro w' ⟨h1, h2⟩; go_simp; rfl); exact hS0; simp only [List.setIfInBounds_toArray, List.set_cons_succ, List.set_cons_zero]
          (apply reg_take 30 rfl rfl (by decide +kernel) rfl); (rintro w' ⟨h1, h2⟩; go_simp; rfl); exact hS0; simp only [List.setIfInBounds_toArray, List.set_cons_succ, List.set_cons_zero]
          (apply reg_take 31 rfl rfl (by decide +kernel) rfl); (rintro w' ⟨h1, h2⟩; go_simp; rfl); exact hS0; simp only [List.setIfInBounds_toArray, List.set_cons_succ, List.set_cons_zero]
          (apply reg_take 32 rfl rfl (by decide +kernel) rfl); (rintro w' ⟨h1, h2⟩; go_simp; rfl); exact hS0; simp only [List.setIfInBounds_toArray, List.set_cons_succ, List.set_cons_zero]
          (apply reg_skip 33 rfl rfl (by decide +kernel) rfl); exact hS0; simp only [List.setIfInBounds_toArray, List.set_cons_succ, List.set_cons_zero]
          (apply reg_skip 34 rfl rfl (by decide +kernel) rfl); exact hS0; simp only [List.setIfInBounds_toArray, List.set_cons_succ, List.set_cons_zero]
          (apply reg_skip 35 rfl rfl (by decide +kernel) rfl); exact hS0; simp only [List.setIfInBounds_toArray, List.set_cons_succ, List.set_cons_zero]
          (apply reg_skip 36 rfl rfl (by decide +kernel) rfl); exact hS0; simp only [List.setIfInBounds_toArray, List.set_cons_succ, List.set_cons_zero]
          (apply reg_skip 37 rfl rfl (by decide +kernel) rfl); exact hS0; simp only [List.setIfInBounds_toArray, List.set_cons_succ, List.set_cons_zero]
          (apply reg_skip 38 rfl rfl (by decide +kernel) rfl); exact hS0; simp only [List.setIfInBounds_toArray, List.set_cons_succ, List.set_cons_zero]
          (apply reg_skip 39 rfl rfl (by decide +kernel) rfl); exact hS0; simp only [List.setIfInBounds_toArray, List.set_cons_succ, List.set_cons_zero]
          (apply reg_skip 40 rfl rfl (by decide +kernel) rfl); exact hS0; simp only [List.setIfInBounds_toArray, List.set_cons_succ, List.set_cons_zero]
          (apply reg_take 41 rfl rfl (by decide +kernel) rfl); (rintro w' ⟨h1, h2⟩; go_simp; rfl); exact hS0; simp only [List.setIfInBounds_toArray, List.set_cons_succ, List.set_cons_zero]
          (apply reg_take 42 rfl rfl (by decide +kernel) rfl); (rintro w' ⟨h1, h2⟩; go_simp; rfl); exact hS0; simp only [List.setIfInBounds_toArray, List.set_cons_succ, List.set_cons_zero]
          (apply reg_take 43 rfl rfl (by decide +kernel) rfl); (rintro w' ⟨h1, h2⟩; go_simp; rfl); exact hS0; simp only [List.setIfInBounds_toArray, List.set_cons_succ, List.set_cons_zero]
          refine reg_done (by decide +kernel) ?_
          go_wp2
          go_ret
          exact ⟨rfl, H1.out.1.below_of H1.out.2⟩
      · clear hv hsz ho
        go_enter Try.func5, Try.ntmps5
        go_wp2_with (go_at_call 10; refine (HSAN.out emp _ HW.out).mono ?_; rintro e w1 ⟨rfl, h1⟩)
        go_ret
        exact ⟨rfl, h1.out.1.below_of h1.out.2⟩
    · clear hv hsz ho
      go_enter Try.func5, Try.ntmps5
      go_wp2_with (go_at_call 10; refine (HSAN.out emp _ HW.out).mono ?_; rintro e w1 ⟨rfl, h1⟩)
      go_ret
      exact ⟨rfl, h1.out.1.below_of h1.out.2⟩
  · clear hv hsz ho
    go_enter Try.func5, Try.ntmps5
    go_wp2_with (go_at_call 10; refine (HSAN.out emp _ HW.out).mono ?_; rintro e w1 ⟨rfl, h1⟩)
    go_ret
    exact ⟨rfl, h1.out.1.below_of h1.out.2⟩
end Go.Proofs.Ytbegomjbakidmaa

/- WalSeparate: its row. -/
namespace Go.Proofs.Ytbegomjbakidmaa
open Go.ChangeShapes Go.WideShapes Go.ChangeAt Go.RowKit Go.Sl Go.ChangeMaps
set_option maxRecDepth 100000 in
theorem walSeparate_lifted (os : Os) (started : os.Started) (H : Type) (enc : TypeId × Value → H) :
    ReturnsInHanded {} Try.checked os 5 .any (Rows.walSeparateSpec.pre6 enc Try.prog Try.f5 Rows.walSeparateRow.domain false) (Rows.walSeparateSpec.post enc Try.prog Try.f5 false true false false) := by
  refine returnsInHanded_of_change (C := Try.checked) law_own started (by kernel_rfl) Try.func5
    (ChangeSpec.witness6 (enc := enc) (C := Try.checked) false ⟨#[], #[.int .i64 0, .slice none 0 0, .string ⟨#[]⟩], []⟩ 8 (by kernel_rfl) (by kernel_rfl) (by kernel_rfl) (by kernel_rfl)) ?_
  intro W base args ds gs before hval0 hW _ _
  have hval : ∀ (j : Nat) t v, Try.f5.params[j]? = some t → args[j]? = some v → Value.okWide Try.prog W .any base t v := hval0
  have hW' := hW
  obtain ⟨p, q, hA0, hV, rfl, _, _⟩ := hW
  have hA : DataW.TrodAll enc Try.prog W 0 (fun _ => true) true Try.f5.params.toList args.toList ds p := hA0
  rw [Try.params5] at hA hval
  obtain ⟨w0, vs0, d0, ds0, p0, q0, hargs, rfl, rfl, h0, r0⟩ := trodAll_cons hA
  obtain ⟨w1, vs1, d1, ds1, p1, q1, rfl, rfl, rfl, h1, r1⟩ := trodAll_cons r0
  obtain ⟨w2, vs2, d2, ds2, p2, q2, rfl, rfl, rfl, h2, r2⟩ := trodAll_cons r1
  obtain ⟨rfl, rfl, rfl⟩ := trodAll_nil r2
  obtain rfl : args = #[w0, w1, w2] := by cases args; simp_all
  obtain ⟨rfl, rfl⟩ := trodVars_none hV
  obtain ⟨b0, rfl, rfl, rfl, wf0⟩ := open_int Try.underlying3 (hval 0 3 w0 rfl rfl) h0
  obtain ⟨v1, l1, e1, s1, _, m1⟩ := rd_strs (trod_rd h1)
  obtain ⟨x1, y1, z1, rfl⟩ := okWide_slice Try.underlying22 (hval 1 _ w1 rfl rfl)
  obtain rfl : .slice x1 y1 z1 = v1 := by simpa [Value.cells] using e1
  obtain ⟨y2, rfl, rfl, rfl, z2⟩ := open_string Try.underlying9 (hval 2 _ w2 rfl rfl) h2
  obtain ⟨m2, rfl, g2⟩ := strB_of y2
  have n2 : m2.length ≤ 9223372036854775807 := by rw [g2]; exact z2
  refine (separate_law _ _ _ _ W s1 m1 n2).mono fun e W' ⟨he, hg⟩ => ?_
  subst he
  exact ⟨_, rfl, law_post (by kernel_rfl) rfl (of_decide_eq_true (by kernel_rfl)) rfl hW' hg⟩

theorem walSeparate_holds : Rows.WalSeparateSaid :=
  OpenClaim.holds_of_wide 5 Try.f5 rfl rfl rfl rfl rfl rfl rfl ⟨rfl, rfl, rfl, rfl, rfl⟩ rfl rfl rfl rfl rfl (by kernel_rfl) Try.func5 (by kernel_rfl)
    (of_decide_eq_true (by kernel_rfl)) (by unfold Func.isWrapper; first | (rw [if_pos (by decide +kernel)]; kernel_rfl) | (rw [if_neg (by decide +kernel)]; exact ⟨rfl, rfl⟩))
    (fun os started H enc _ => walSeparate_lifted os started H enc)


end Go.Proofs.Ytbegomjbakidmaa
