import Derived.Test.YtbegomjbakidmaaHa
/- WalReads: its walk. -/
namespace Go.Proofs.Ytbegomjbakidmaa
open Go.RowKit Go.Sl Go.ChangeMaps

structure RdSt (w : World) (E : HProp) (rs : List (List UInt8)) (v13 v14 : Value) (wr : World) : Prop where
  st : ∃ i : Nat, i ≤ rs.length ∧ v13 = .int .i64 (sumN (rs.take i)) ∧ v14 = .int .i64 (i : Int) ∧ Same w wr ∧ Sat wr E
theorem rd_perm (B O T I X : HProp) : B * (O * (T * (I * X))) = I * (B * (O * (T * X))) := by ac_rfl
theorem rd_perm2 (B O T I X : HProp) : B * (O * ((T * I) * X)) = T * (B * (O * (I * X))) := by ac_rfl
theorem rd_perm3b (O T I X : HProp) : O * ((T * I) * X) = I * (O * (T * X)) := by ac_rfl
theorem rd_old4 (T I S W : HProp) : T * (I * (S * W)) = (T * (I * S)) * W := by ac_rfl
theorem rd_old (D B O Y S W : HProp) : D * (B * (O * (Y * (S * W)))) = (D * (B * (O * (Y * S)))) * W := by ac_rfl
theorem ownAt_cap {w : World} {T : TypeId} {sz n m cap : Nat} {ao : Option Addr} {xs : List Value} {F : HProp} (h : Sat w (ownAt T sz (.slice ao m cap) n xs * F)) : n ≤ cap := by
  rcases ownAt_iff.1 h with ⟨_, rfl, _⟩ | ⟨g, cap', cur, ⟨hv, hc, _⟩, _⟩
  · exact Nat.zero_le _
  · injection hv with _ _ hv
    omega
theorem StrsAt.dropAt {w : World} {ao : Option Addr} {n cap k : Nat} {l : List ByteArray} (h : StrsAt w (.slice ao n cap) l) : StrsAt w (.slice (ao.map fun x => x.add k) (n - k) (cap - k)) (l.drop k) := by
  obtain ⟨ao', cap', e, h0⟩ := h
  injection e with e1 e2 e3
  subst e1 e2
  refine ⟨_, _, by rw [List.length_drop], fun hne => ?_⟩
  obtain ⟨b, off, rfl, hc⟩ := h0 (by rintro rfl; simp at hne)
  refine ⟨b, off + k, by simp [Addr.add_mid], fun j x hx => ?_⟩
  rw [List.getElem?_drop] at hx
  have h1 := hc (k + j) x hx
  rw [show off + (k + j) * 1 = off + k + j * 1 by omega] at h1
  exact h1
theorem StrsAt.none_left {w : World} {ao : Option Addr} {n c : Nat} {l : List ByteArray} (h : n = 0) (hl : l = []) : StrsAt w (.slice ao n c) l := by
  subst h hl
  exact ⟨ao, c, rfl, fun h => absurd rfl h⟩
theorem rd_perm3 (T I X : HProp) : (T * I) * X = I * (T * X) := by ac_rfl
theorem scan_law {p : Nat} {size : Int} {S : ShelfM} {rs : List (List UInt8)} (hinv : InvK size S rs) (h1 : 1 ≤ size) (h2 : size ≤ 40) (hl : rs.length ≤ 40) {k : Nat} (hk : k ≤ rs.length) (X F : HProp) (W : World) (h : Sat W (X * (shelfAt SH p S * F))) :
    Calls Try.prog 12 #[.pointer (some ⟨p, 0, none⟩), .int .i64 0, .agg (tailA (tailK rs k))] W fun e w' => ∃ v, e = .returned (.tuple #[v, .agg (tailA (tailK rs rs.length)), .int .i64 0]) ∧ Hid (Same W w' ∧ Sat w' (ownS v (rs.drop k) * (X * (shelfAt SH p S * F)))) := by
  have hN : ((size.toNat : Nat) : Int) = logN (cfgW size) := by rw [cfgW_logN h1]; omega
  have ht : tailV (tailK rs k) = true := tailK_valid (N := size.toNat) (Int.le_trans (sumN_take_le rs k) hinv.log.fit) (by omega) (by omega)
  have h3 := scan_fine (F := X * F) (d := 0) hinv.fine hN (by show (3 : Int) ≤ size + 3; omega) ⟨by decide, by show (0 : Int) < 2; decide⟩ ht (hinv.scan h1 h2 (by omega) hk) (by rw [List.length_drop]; omega) (h.perm (star_left_comm _ _ _))
  exact h3.mono fun e w' ⟨v, he, hs⟩ => ⟨v, he, hs.out.1, hs.out.2.perm (by ac_rfl)⟩
set_option maxHeartbeats 4000000 in
set_option maxRecDepth 100000 in
theorem reads_law (size k : Int) (v : Value) (l : List (List UInt8)) (w : World) (hv : StrsAt w v (List.map strB l)) (hsz : ∀ r ∈ l, r.length ≤ 9223372036854775807) :
    Calls Try.prog 3 #[.int .i64 size, v, .int .i64 k] w fun e w' => e = .returned (.bool true) ∧ Below w.heap.size w w' := by
  obtain ⟨ao, cap, rfl, _⟩ := id hv
  rw [List.length_map] at *
  have HSAN := Lib.hid (fun X W (h : Sat W (X * old w)) => sanity_old w W h)
  have HW := Lib.hid (show Sat w (emp * old w) from by rw [emp_star]; exact Sat.old w)
  cases d1 : decide (size < 1)
  · cases d2 : decide (40 < size)
    · cases d3 : decide ((40 : Int) < (l.length : Int))
      · skip
        have hs1 : 1 ≤ size := by have := of_decide_eq_false d1; omega
        have hs2 : size ≤ 40 := by have := of_decide_eq_false d2; omega
        have hll : l.length ≤ 40 := by have := of_decide_eq_false d3; omega
        have HLOG := Lib.hid (log_any size hs1 hs2 _ l hll hsz (old w) w (Sat.old w) (fun W hW => hv.old1 hW))
        have HB := Lib.hid (And.intro hs1 (And.intro hs2 hll))
        clear hv hsz hs1 hs2 hll
        go_enter Try.func3, Try.ntmps3
        go_upto_region 4 with (go_at_call 11; refine HLOG.out.mono ?_; rintro e w1 ⟨p, n, S, vt, vi, hn, hinv, _, rfl, h1⟩)
        have hlen : (l.take n).length = n := by rw [List.length_take]; omega
        have hn40 : n ≤ 40 := Nat.le_trans hn HB.out.2.2
        generalize l.take n = rs at hlen hinv h1
        subst hlen
        obtain ⟨g9, c9, rfl, _⟩ := ownT_open h1.out.2
        obtain ⟨ao10, cp10, rfl⟩ := ownAt_slice h1.out.2.right
        cases e1 : decide (k < 0)
        · cases e2 : decide ((rs.length : Int) < k)
          · have hk0 := of_decide_eq_false e1
            have hk1 := of_decide_eq_false e2
            obtain ⟨k, rfl⟩ := Int.eq_ofNat_of_zero_le (show 0 ≤ k by omega)
            have hki : k < rs.length + 1 := by omega
            have hra := (ownT_at h1.out.2 (show k ≤ rs.length by omega)).1
            rw [Nat.zero_add] at hra
            have HSC := Lib.hid (fun X W h => scan_law (p := p) hinv HB.out.1 HB.out.2.1 hn40 (show k ≤ rs.length by omega) X (old w) W h)
            have HINV := Lib.hid hinv
            have H1 := Lib.hid (And.intro h1.out.1 (h1.out.2.perm (star_assoc _ _ _).symm))
            clear h1 hinv hn hk0 hk1
            go_upto_region 7 with (first
              | ((with_reducible (apply wp_load_tail hra)); rfl; rfl; rfl)
              | (go_at_call 12; refine (HSC.out _ _ H1.out.2).mono ?_; rintro e w2 ⟨vo, rfl, h2⟩; replace H1 := Lib.hid (And.intro (H1.out.1.trans h2.out.1) h2.out.2); clear h2 hra))
            have hE0 := H1.out.2.alloc (.cells (tailA (tailK rs rs.length)) TTail)
            replace H1 := Lib.hid (And.intro (H1.out.1.alloc (.cells (tailA (tailK rs rs.length)) TTail)) hE0)
            clear hE0
            generalize w2.alloc (.cells (tailA (tailK rs rs.length)) TTail) = w3 at H1 ⊢
            generalize w2.heap.size = B at H1 ⊢
            obtain ⟨E, hE⟩ : ∃ E, E = pts B (.cells (tailA (tailK rs rs.length)) TTail (0, 0)) * (ownS vo (rs.drop k) * ((ownT (.slice (some ⟨g9, 0, none⟩) (rs.length + 1) c9) rs * ownS (.slice ao10 rs.length cp10) rs) * (shelfAt SH p S * old w))) := ⟨_, rfl⟩
            have hst : RdSt w E rs (.int .i64 0) (.int .i64 0) w3 := ⟨⟨0, Nat.zero_le _, by simp [sumN], rfl, H1.out.1, by rw [hE]; exact H1.out.2⟩⟩
            have HST := Lib.hid hst
            have HEE := Lib.hid hE
            clear hst H1 hE HSC HLOG
            go_wp2_with (fail)
            go_loopw [13, 14] (fun v13 v14 wr => RdSt w E rs v13 v14 wr) (fun _ v14 _ => rs.length - (intOf v14).toNat)
            case atStart => exact HST.out
            case round =>
              obtain ⟨i, hi, rfl, rfl, hsm, hs⟩ := hrel.st
              clear hrel HST
              have H1 := Lib.hid (And.intro hsm hs)
              by_cases hlt : i < rs.length
              · have hltd : decide ((i : Int) < (rs.length : Int)) = true := decide_eq_true (by omega)
                obtain ⟨r, hr⟩ : ∃ r, rs[i]? = some r := ⟨_, List.getElem?_eq_getElem hlt⟩
                obtain ⟨b1, off1, rfl, hc⟩ : ∃ b1 off1, ao10 = some ⟨b1, off1, none⟩ ∧ wr.cell? ⟨b1, off1 + i * 1, none⟩ = some (.string (strB r)) := by
                  rw [HEE.out] at hs
                  have h4 := ownS_strs (hs.right.right.perm (show _ = ownS (.slice ao10 rs.length cp10) rs * (ownT (.slice (some ⟨g9, 0, none⟩) (rs.length + 1) c9) rs * (shelfAt SH p S * old w)) from by ac_rfl))
                  obtain ⟨_, _, e, h0⟩ := h4
                  obtain ⟨b1, off1, e0, h5⟩ := h0 (by intro h; rw [List.map_eq_nil_iff] at h; rw [h] at hlt; exact absurd hlt (Nat.not_lt_zero _))
                  injection e with e3
                  exact ⟨b1, off1, e3.trans e0, h5 i (strB r) (by rw [List.getElem?_map, hr]; rfl)⟩
                have hrl := HINV.out.small r (List.mem_of_getElem? hr)
                have htk : rs.take (i + 1) = rs.take i ++ [r] := by rw [List.take_add_one, hr]; rfl
                have hb2 := sumN_take_le rs (i + 1)
                have hb3 := HINV.out.log.fit
                have hb4 := sumN_nonneg (rs.take i)
                have hb5 := size_pos (show (0 : Int) ≤ (r.length : Int) by omega)
                rw [htk, sumN_snoc] at hb2
                have hsum : IntKind.i64.wrap (sumN (rs.take i) + sizeM (r.length : Int)) = sumN (rs.take i) + sizeM (r.length : Int) := IntWalk.i64_in _ (by have := HB.out.2.1; have := HB.out.1; omega)
                have HSZ := Lib.hid (fun W => size_any (r.length : Int) (by omega) (by omega) W)
                have hlr : (strB r).size = r.length := strB_size r
                have hi40 : (i : Int) ≤ 40 := by omega
                have HTK := Lib.hid htk
                rw [Nat.mul_one] at hc
                clear hs hsm hb2 hb3 hb4 hb5 htk hrl hr
                go_wp2_with (go_at_call 13; refine (HSZ.out _).mono ?_; rintro e w' ⟨rfl, rfl⟩)
                go_roundw
                case rel => exact ⟨⟨i + 1, hlt, by rw [HTK.out, sumN_snoc], rfl, H1.out.1, H1.out.2⟩⟩
                case measure => simp only [intOf]; omega
              · have hie : i = rs.length := by omega
                subst hie
                have hltd : decide ((rs.length : Int) < (rs.length : Int)) = false := decide_eq_false (by omega)
                rw [HEE.out] at hs
                clear hlt hi
                have hwr : IntKind.i64.wrap (rs.length : Int) = (rs.length : Int) := wrap_nat rs.length (by omega)
                have hra := (ownT_at (hs.perm (rd_perm2 _ _ _ _ _)) (Nat.le_refl rs.length)).1
                rw [Nat.zero_add] at hra
                have hrl1 : rs.length < rs.length + 1 := Nat.lt_succ_self _
                have hnx : ((tailK rs rs.length).next == sumN rs) = true := by show (sumN (rs.take rs.length) == sumN rs) = true; rw [List.take_length]; simp
                have hnu : ((tailK rs rs.length).number == (rs.length : Int)) = true := by show ((rs.length : Int) == (rs.length : Int)) = true; simp
                replace H1 := Lib.hid (And.intro (hsm.alloc (.cells (tailA (tailK rs rs.length)) TTail)) (hs.alloc (.cells (tailA (tailK rs rs.length)) TTail)))
                have HSS := Lib.hid (And.intro (show k ≤ rs.length by omega) (And.intro hn40 (ownAt_cap (hs.right.perm (rd_perm3b _ _ _ _)))))
                clear hs hsm
                go_upto_region 13 with ((with_reducible (apply wp_load_tail hra)); rfl; rfl; rfl)
                generalize wr.alloc (.cells (tailA (tailK rs rs.length)) TTail) = w5 at H1 ⊢
                generalize wr.heap.size = D at H1 ⊢
                clear hra
                obtain ⟨d0, d1, d2, d3, ld⟩ := t4 H1.out.2; obtain ⟨b0, b1, b2, b3, lb⟩ := t4 H1.out.2.right
                go_wp2_with (first
                  | (go_at_call 10; refine (HSAN.out _ _ (H1.out.2.perm (rd_old _ _ _ _ _ _))).mono ?_; rintro e w6 ⟨rfl, hx⟩; replace H1 := Lib.hid (And.intro (H1.out.1.trans hx.out.1) (hx.out.2.perm (rd_old _ _ _ _ _ _).symm)); clear d0 d1 d2 d3 ld b0 b1 b2 b3 lb; clear hx; obtain ⟨d0, d1, d2, d3, ld⟩ := t4 H1.out.2; obtain ⟨b0, b1, b2, b3, lb⟩ := t4 H1.out.2.right)
                  | (go_at_call 14; (first
                      | (refine (same18_any vo _ ((rs.drop k).map strB) ((rs.drop k).map strB) _ (ownS_strs H1.out.2.right.right) (by rw [List.map_drop]; exact StrsAt.dropAt (ownS_strs (H1.out.2.right.right.right.perm (rd_perm3 _ _ _)))) (by rw [List.length_map, List.length_drop]; have := HSS.out; omega)).mono ?_)
                      | (refine (same18_any vo _ ((rs.drop k).map strB) ((rs.drop k).map strB) _ (ownS_strs H1.out.2.right.right) (StrsAt.none_left (by have := HSS.out; omega) (by rw [List.drop_eq_nil_of_le (by have := HSS.out; omega)]; rfl)) (by rw [List.length_map, List.length_drop]; have := HSS.out; omega)).mono ?_)); rintro e w7 ⟨rfl, hx⟩; replace H1 := Lib.hid (And.intro (H1.out.1.below hx) (H1.out.2.below hx)); clear d0 d1 d2 d3 ld b0 b1 b2 b3 lb; clear hx; obtain ⟨d0, d1, d2, d3, ld⟩ := t4 H1.out.2; obtain ⟨b0, b1, b2, b3, lb⟩ := t4 H1.out.2.right)
                  | fail)
                all_goals
                  go_ret
                  exact ⟨rfl, H1.out.1.below_of (H1.out.2.perm (rd_old _ _ _ _ _ _))⟩
          · go_wp2_with (go_at_call 10; refine (HSAN.out _ _ (h1.out.2.perm (rd_old4 _ _ _ _))).mono ?_; rintro e w6 ⟨rfl, hx⟩)
            go_ret
            exact ⟨rfl, (h1.out.1.trans hx.out.1).below_of hx.out.2⟩
        · go_wp2_with (go_at_call 10; refine (HSAN.out _ _ (h1.out.2.perm (rd_old4 _ _ _ _))).mono ?_; rintro e w6 ⟨rfl, hx⟩)
          go_ret
          exact ⟨rfl, (h1.out.1.trans hx.out.1).below_of hx.out.2⟩
      · clear hv hsz
        go_enter Try.func3, Try.ntmps3
        go_wp2_with (go_at_call 10; refine (HSAN.out emp _ HW.out).mono ?_; rintro e w1 ⟨rfl, h1⟩)
        go_ret
        exact ⟨rfl, h1.out.1.below_of h1.out.2⟩
    · clear hv hsz
      go_enter Try.func3, Try.ntmps3
      go_wp2_with (go_at_call 10; refine (HSAN.out emp _ HW.out).mono ?_; rintro e w1 ⟨rfl, h1⟩)
      go_ret
      exact ⟨rfl, h1.out.1.below_of h1.out.2⟩
  · clear hv hsz
    go_enter Try.func3, Try.ntmps3
    go_wp2_with (go_at_call 10; refine (HSAN.out emp _ HW.out).mono ?_; rintro e w1 ⟨rfl, h1⟩)
    go_ret
    exact ⟨rfl, h1.out.1.below_of h1.out.2⟩
end Go.Proofs.Ytbegomjbakidmaa

/- WalReads: its row. -/
namespace Go.Proofs.Ytbegomjbakidmaa
open Go.ChangeShapes Go.WideShapes Go.ChangeAt Go.RowKit Go.Sl Go.ChangeMaps
set_option maxRecDepth 100000 in
theorem walReads_lifted (os : Os) (started : os.Started) (H : Type) (enc : TypeId × Value → H) :
    ReturnsInHanded {} Try.checked os 3 .any (Rows.walReadsSpec.pre6 enc Try.prog Try.f3 Rows.walReadsRow.domain false) (Rows.walReadsSpec.post enc Try.prog Try.f3 false true false false) := by
  refine returnsInHanded_of_change (C := Try.checked) law_own started (by kernel_rfl) Try.func3
    (ChangeSpec.witness6 (enc := enc) (C := Try.checked) false ⟨#[], #[.int .i64 0, .slice none 0 0, .int .i64 0], []⟩ 8 (by kernel_rfl) (by kernel_rfl) (by kernel_rfl) (by kernel_rfl)) ?_
  intro W base args ds gs before hval0 hW _ _
  have hval : ∀ (j : Nat) t v, Try.f3.params[j]? = some t → args[j]? = some v → Value.okWide Try.prog W .any base t v := hval0
  have hW' := hW
  obtain ⟨p, q, hA0, hV, rfl, _, _⟩ := hW
  have hA : DataW.TrodAll enc Try.prog W 0 (fun _ => true) true Try.f3.params.toList args.toList ds p := hA0
  rw [Try.params3] at hA hval
  obtain ⟨w0, vs0, d0, ds0, p0, q0, hargs, rfl, rfl, h0, r0⟩ := trodAll_cons hA
  obtain ⟨w1, vs1, d1, ds1, p1, q1, rfl, rfl, rfl, h1, r1⟩ := trodAll_cons r0
  obtain ⟨w2, vs2, d2, ds2, p2, q2, rfl, rfl, rfl, h2, r2⟩ := trodAll_cons r1
  obtain ⟨rfl, rfl, rfl⟩ := trodAll_nil r2
  obtain rfl : args = #[w0, w1, w2] := by cases args; simp_all
  obtain ⟨rfl, rfl⟩ := trodVars_none hV
  obtain ⟨b0, rfl, rfl, rfl, wf0⟩ := open_int Try.underlying3 (hval 0 3 w0 rfl rfl) h0
  obtain ⟨v1, l1, e1, s1, _, m1⟩ := rd_strs (trod_rd h1)
  obtain ⟨x1, y1, z1, rfl⟩ := okWide_slice Try.underlying22 (hval 1 _ w1 rfl rfl)
  obtain rfl : .slice x1 y1 z1 = v1 := by simpa [Value.cells] using e1
  obtain ⟨b2, rfl, rfl, rfl, wf2⟩ := open_int Try.underlying3 (hval 2 3 w2 rfl rfl) h2
  refine (reads_law _ _ _ _ W s1 m1).mono fun e W' ⟨he, hg⟩ => ?_
  subst he
  exact ⟨_, rfl, law_post (by kernel_rfl) rfl (of_decide_eq_true (by kernel_rfl)) rfl hW' hg⟩

theorem walReads_holds : Rows.WalReadsSaid :=
  OpenClaim.holds_of_wide 3 Try.f3 rfl rfl rfl rfl rfl rfl rfl ⟨rfl, rfl, rfl, rfl, rfl⟩ rfl rfl rfl rfl rfl (by kernel_rfl) Try.func3 (by kernel_rfl)
    (of_decide_eq_true (by kernel_rfl)) (by unfold Func.isWrapper; first | (rw [if_pos (by decide +kernel)]; kernel_rfl) | (rw [if_neg (by decide +kernel)]; exact ⟨rfl, rfl⟩))
    (fun os started H enc _ => walReads_lifted os started H enc)


end Go.Proofs.Ytbegomjbakidmaa
