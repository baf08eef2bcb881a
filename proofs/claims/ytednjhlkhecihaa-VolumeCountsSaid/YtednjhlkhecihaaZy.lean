/- VolumeCounts: the references to all chunks that are mapped add up to the number of mapped blocks, and each list of references has increasing tenants and positive counts. Printed by zy27.py. -/
import Derived.Test.YtednjhlkhecihaaWk
import Derived.Test.YtednjhlkhecihaaWv
import Derived.Test.YtednjhlkhecihaaZv
import Derived.BigQuiet
namespace Go.Proofs.Ytednjhlkhecihaa
open Go.RowKit Go.Vol Go.Sl Go.ChangeMaps Go.ChangeShapes Go.WideShapes Go.ChangeAt

structure LowSt (w : World) (l : List VOp) (s i : Value) (wr : World) : Prop where
  st : ∃ (k p : Nat) (S : SpaceM), k ≤ l.length ∧ i = .int .i64 (k : Int) ∧ s = .pointer (some ⟨p, 0, none⟩) ∧ Hid (Below w.heap.size w wr ∧ SpaceAt TNode TSp wr p S ∧ S.WF ∧ Low S)
structure SumSt (w : World) (c0 : Int) (L : List PartM) (b i : Value) (wr : World) : Prop where
  st : ∃ k : Nat, k ≤ L.length ∧ i = .int .i64 (k : Int) ∧ b = .int .i64 (c0 + cntL (L.take k)) ∧ Below w.heap.size w wr
structure OutSt (w : World) (S : SpaceM) (s i : Value) (wr : World) : Prop where
  st : ∃ k : Nat, k ≤ 40 ∧ i = .int .i64 (k : Int) ∧ s = .int .i64 (sumN k (refSum S)) ∧ Below w.heap.size w wr
structure InSt (w : World) (s0 : Int) (R : List (Nat × Int)) (s i : Value) (wr : World) : Prop where
  st : ∃ j : Nat, j ≤ R.length ∧ i = .int .i64 (j : Int) ∧ s = .int .i64 (s0 + sumR (R.take j)) ∧ Below w.heap.size w wr

set_option maxRecDepth 20000 in
set_option maxHeartbeats 4000000 in
theorem counts_law (sv : Value) (l : List VOp) (w : World) (hscr : ScrV w sv l) :
    Calls Try.prog 4 #[sv] w fun e w' => e = .returned (.bool true) ∧ Below w.heap.size w w' := by
  obtain ⟨ao, cap, rfl, hm, hc⟩ := hscr
  have HC := Lib.hid hc
  clear hc hm
  by_cases h1 : 60 < l.length
  · have h1d : decide ((60 : Int) < (l.length : Int)) = true := decide_eq_true (by omega)
    clear h1
    go_enter Try.func4, Try.ntmps4
    go_wp2_with (go_at_call 9; refine (sanity_any _).mono ?_; rintro e w10 ⟨rfl, h10⟩)
    go_ret
    exact ⟨rfl, h10⟩
  have h1d : decide ((60 : Int) < (l.length : Int)) = false := decide_eq_false (by omega)
  have hlen : l.length ≤ 60 := by omega
  clear h1
  have HN := Lib.hid (new_any w)
  go_enter Try.func4, Try.ntmps4
  go_wp2_with (go_at_call 10; refine HN.out.mono ?_; rintro e w1 ⟨p0, rfl, h1⟩)
  go_loopw [3, 4] (fun s i wr => LowSt w l s i wr) (fun _ i _ => l.length - (intOf i).toNat)
  case atStart => exact ⟨0, p0, SpaceM.new, Nat.zero_le _, rfl, rfl, h1.out.1, h1.out.2, SpaceM.WF.new, low_new⟩
  case round =>
    clear h1 HN
    obtain ⟨k, p, S, hk, rfl, rfl, HS⟩ := hrel.st
    clear hrel
    by_cases hlt : k < l.length
    · have hltd : decide ((k : Int) < (l.length : Int)) = true := decide_eq_true (by omega)
      have hki : (k : Int) ≤ 60 := by omega
      obtain ⟨o, ho⟩ : ∃ o, l[k]? = some o := ⟨_, List.getElem?_eq_getElem hlt⟩
      obtain ⟨g, off, rfl, hcell⟩ := HC.out (by rintro rfl; simp at hlt)
      have hcw := fun i u hu => (HS.out.1.cell (World.block_lt_of_cell? _ _ (hcell k o ho i u hu))).trans (hcell k o ho i u hu)
      have c0 := hcw 0 _ rfl; have c1 := hcw 1 _ rfl; have c2 := hcw 2 _ rfl; have c3 := hcw 3 _ rfl
      rw [Nat.add_zero] at c0
      have HD := Lib.hid (do_any p S o wr HS.out.2.1 HS.out.2.2.1)
      have HWF := Lib.hid (do_wf (o := o) HS.out.2.2.1)
      have HLO := Lib.hid (low_do (o := o) HS.out.2.2.2)
      obtain ⟨od, oa, ob, oc⟩ := o
      clear hcell hcw ho
      by_cases hz : 0 ≤ oc
      · have hzd : decide (0 ≤ oc) = true := decide_eq_true hz
        by_cases h40 : oc < 40
        · have h40d : decide (oc < 40) = true := decide_eq_true h40
          replace HLO := Lib.hid (HLO.out h40)
          clear hz h40
          go_wp2_with (go_at_call 11; refine HD.out.mono ?_; rintro e w2 ⟨p', rfl, h2⟩)
          refine ⟨⟨k + 1, p', _, by omega, rfl, rfl, ⟨HS.out.1.trans (h2.out.1.mono HS.out.1.size), h2.out.2, HWF.out, HLO.out⟩⟩, ?_⟩
          simp only [intOf]; omega
        · have h40d : decide (oc < 40) = false := decide_eq_false h40
          clear hz h40
          go_wp2
          refine ⟨⟨k + 1, p, S, by omega, rfl, rfl, HS⟩, ?_⟩
          simp only [intOf]; omega
      · have hzd : decide (0 ≤ oc) = false := decide_eq_false hz
        clear hz
        go_wp2
        refine ⟨⟨k + 1, p, S, by omega, rfl, rfl, HS⟩, ?_⟩
        simp only [intOf]; omega
    · obtain rfl : k = l.length := by omega
      have hltd : decide ((l.length : Int) < (l.length : Int)) = false := decide_eq_false (by omega)
      have hvl := HS.out.2.2.1.vlen
      have hsl := HS.out.2.2.1.slen
      clear HC
      go_wp2_with (go_at_call 15; refine (volsS_any p S wr HS.out.2.1 HS.out.2.2.1).mono ?_; rintro e w2 ⟨va, rfl, h2⟩)
      obtain ⟨vo, vc, rfl, _⟩ := id h2.out.2
      clear hltd hlt hk
      go_loopw [5, 7] (fun b i wr => SumSt w2 0 S.vols b i wr) (fun _ i _ => S.vols.length - (intOf i).toNat)
      case atStart => exact ⟨⟨0, Nat.zero_le _, rfl, rfl, Below.refl _ _⟩⟩
      case round =>
        obtain ⟨k, hk, rfl, rfl, hbw⟩ := hrel.st
        clear hrel
        by_cases hlt : k < S.vols.length
        · have hltd : decide ((k : Int) < (S.vols.length : Int)) = true := decide_eq_true (by omega)
          have hki : (k : Int) ≤ 64 := by omega
          obtain ⟨x, hx⟩ : ∃ x, S.vols[k]? = some x := ⟨_, List.getElem?_eq_getElem hlt⟩
          obtain ⟨g, rfl, hg, e0, e1, e2⟩ := vi_cells h2.out.2 hx
          have e2 := (hbw.cell (p := ⟨g, k * 3 + 2, none⟩) hg).trans e2
          have hcb := cntL_bound (S.vols.take k)
          have hcx := cnt_le x.m
          have htl : (S.vols.take k).length ≤ 64 := by rw [List.length_take]; omega
          have hn1 : 0 ≤ 0 + cntL (S.vols.take k) := by omega
          have hn2 : 0 + cntL (S.vols.take k) ≤ 262144 := by omega
          have hn3 : (cnt x.m : Int) ≤ 4096 := by omega
          have hn0 : 0 ≤ (cnt x.m : Int) := by omega
          have HB := Lib.hid hbw
          have HT := Lib.hid (cntL_take hx)
          clear hx e0 e1 hbw hcb htl
          go_wp2
          refine ⟨⟨⟨k + 1, by omega, by rw [Int.natCast_add]; rfl, by rw [HT.out]; simp only [Int.add_assoc, Int.zero_add], HB.out⟩⟩, by simp only [intOf]; omega⟩
        · obtain rfl : k = S.vols.length := by omega
          have hltd : decide ((S.vols.length : Int) < (S.vols.length : Int)) = false := decide_eq_false (by omega)
          rw [List.take_length]
          have hb2 := HS.out.1.trans ((h2.out.1.trans (hbw.mono h2.out.1.size)).mono HS.out.1.size)
          have hsp := HS.out.2.1.below (h2.out.1.trans (hbw.mono h2.out.1.size))
          have HB2 := Lib.hid (And.intro hb2 hsp)
          have HWF := Lib.hid (And.intro HS.out.2.2.1 HS.out.2.2.2)
          clear hbw h2 hb2 hsp HS
          go_wp2_with (go_at_call 16; refine (snapsS_any p S _ HB2.out.2 HWF.out.1).mono ?_; rintro e w3 ⟨sa, rfl, h3⟩)
          obtain ⟨so, sc, rfl, _⟩ := id h3.out.2
          clear hltd hlt hk
          go_loopw [5, 9] (fun b i wr => SumSt w3 (0 + cntL S.vols) S.snaps b i wr) (fun _ i _ => S.snaps.length - (intOf i).toNat)
          case atStart => exact ⟨⟨0, Nat.zero_le _, rfl, by simp [cntL], Below.refl _ _⟩⟩
          case round =>
            obtain ⟨k, hk, rfl, rfl, hbw⟩ := hrel.st
            clear hrel
            by_cases hlt : k < S.snaps.length
            · have hltd : decide ((k : Int) < (S.snaps.length : Int)) = true := decide_eq_true (by omega)
              have hki : (k : Int) ≤ 256 := by omega
              obtain ⟨x, hx⟩ : ∃ x, S.snaps[k]? = some x := ⟨_, List.getElem?_eq_getElem hlt⟩
              obtain ⟨g, rfl, hg, e0, e1, e2, e3⟩ := si_cells h3.out.2 hx
              have e3 := (hbw.cell (p := ⟨g, k * 4 + 3, none⟩) hg).trans e3
              have hcv := cntL_bound S.vols
              have hcb := cntL_bound (S.snaps.take k)
              have hcx := cnt_le x.m
              have htl : (S.snaps.take k).length ≤ 256 := by rw [List.length_take]; omega
              have hn1 : 0 ≤ 0 + cntL S.vols + cntL (S.snaps.take k) := by omega
              have hn2 : 0 + cntL S.vols + cntL (S.snaps.take k) ≤ 1310720 := by omega
              have hn3 : (cnt x.m : Int) ≤ 4096 := by omega
              have hn0 : 0 ≤ (cnt x.m : Int) := by omega
              have HB := Lib.hid hbw
              have HT := Lib.hid (cntL_take hx)
              clear hx e0 e1 e2 hbw hcb htl hcv
              go_wp2
              refine ⟨⟨⟨k + 1, by omega, by rw [Int.natCast_add]; rfl, by rw [HT.out]; simp only [Int.add_assoc, Int.zero_add], HB.out⟩⟩, by simp only [intOf]; omega⟩
            · obtain rfl : k = S.snaps.length := by omega
              have hltd : decide ((S.snaps.length : Int) < (S.snaps.length : Int)) = false := decide_eq_false (by omega)
              rw [List.take_length]
              have hb3 := HB2.out.1.trans ((h3.out.1.trans (hbw.mono h3.out.1.size)).mono HB2.out.1.size)
              have hsp := HB2.out.2.below (h3.out.1.trans (hbw.mono h3.out.1.size))
              have HB3 := Lib.hid (And.intro hb3 hsp)
              have HEQ := Lib.hid (show 0 + cntL S.vols + cntL S.snaps = sumN 40 (refSum S) by rw [counts HWF.out.1 HWF.out.2]; omega)
              clear hbw h3 hb3 hsp HB2
              generalize hbl : 0 + cntL S.vols + cntL S.snaps = blocks at HEQ
              clear hbl
              go_wp2
              clear hltd hlt hk
              go_loopw [10, 11] (fun s i wr' => OutSt wr S s i wr') (fun _ i _ => 40 - (intOf i).toNat)
              case atStart => exact ⟨⟨0, Nat.zero_le _, rfl, rfl, Below.refl _ _⟩⟩
              case round =>
                obtain ⟨k, hk, rfl, rfl, hbw⟩ := hrel.st
                clear hrel
                by_cases hlt : k < 40
                · have hltd : decide ((k : Int) < 40) = true := decide_eq_true (by omega)
                  have hki : (k : Int) < 40 := by omega
                  have hrf := refsS_any p S (k : Int) wr (HB3.out.2.below hbw) HWF.out.1
                  have HRF := Lib.hid hrf
                  have hsb := sumN_le (b := 32000000) k fun i _ => refSum_bound HWF.out.1 i
                  have hs1 : 0 ≤ sumN k (refSum S) := hsb.1
                  have hs2 : sumN k (refSum S) ≤ 1280000000 := by omega
                  have HSC := Lib.hid (And.intro hbw (show sumN (k + 1) (refSum S) = sumN k (refSum S) + sumR (refsS S (k : Int)) from rfl))
                  have HAT := Lib.hid (fun (j : Nat) (x : Nat × Int) (h : (refsS S (k : Int))[j]? = some x) => And.intro (refs_at HWF.out.1 h) (And.intro (sumR_take h) (sumR_bound HWF.out.1 (k : Int) j)))
                  clear hrf hbw hsb
                  generalize sumN k (refSum S) = s0 at hs1 hs2 HSC ⊢
                  generalize refsS S (k : Int) = R at HRF HSC HAT
                  go_wp2_with (go_at_call 17; refine HRF.out.mono ?_; rintro e w4 ⟨ra, rfl, h4⟩)
                  obtain ⟨ro, rc, rfl, _⟩ := id h4.out.2
                  clear HRF
                  go_loopw [10, 13] (fun s i wr' => InSt w4 s0 R s i wr') (fun _ i _ => R.length - (intOf i).toNat)
                  case atStart => exact ⟨⟨0, Nat.zero_le _, rfl, by simp [sumR], Below.refl _ _⟩⟩
                  case round =>
                    obtain ⟨j, hj, rfl, rfl, hbi⟩ := hrel.st
                    clear hrel
                    by_cases hlj : j < R.length
                    · have hljd : decide ((j : Int) < (R.length : Int)) = true := decide_eq_true (by omega)
                      obtain ⟨x, hx⟩ : ∃ x, R[j]? = some x := ⟨_, List.getElem?_eq_getElem hlj⟩
                      obtain ⟨⟨hp, hp2, ht16, hj16, hprev⟩, hst, hb0, hb1⟩ := HAT.out j x hx
                      obtain ⟨g, rfl, hg, e0, e1⟩ := ref_cells h4.out.2 hx
                      have e0 := (hbi.cell (p := ⟨g, j * 2, none⟩) hg).trans e0
                      have e1 := (hbi.cell (p := ⟨g, j * 2 + 1, none⟩) hg).trans e1
                      obtain ⟨xt, xc⟩ := x
                      simp only at e0 e1 hp hp2 ht16 hprev hst
                      have hpd : decide (xc < 1) = false := decide_eq_false (by omega)
                      have hn1 : 0 ≤ s0 + sumR (R.take j) := by omega
                      have hn2 : s0 + sumR (R.take j) ≤ 1320000000 := by omega
                      generalize sumR (R.take j) = t0 at hn1 hn2 hst hb0 hb1 ⊢
                      have HX := Lib.hid (And.intro hx hst)
                      have HI := Lib.hid hbi
                      cases j with
                      | zero =>
                        have hjd : decide ((0 : Int) < ((0 : Nat) : Int)) = false := by decide
                        clear hx hst hbi hprev hb0 hb1
                        go_upto_region 28 with (fail)
                        go_quiet (fail)
                        go_wp2
                        refine ⟨⟨⟨0 + 1, ?_, by rw [Int.natCast_add]; rfl, ?_, HI.out.drewN _⟩⟩, by simp only [intOf]; omega⟩
                        · have := (List.getElem?_eq_some_iff.1 HX.out.1).1; omega
                        · rw [HX.out.2]; simp only [Int.add_assoc]
                      | succ j =>
                        obtain ⟨y, hy, hyx⟩ := hprev (Nat.succ_pos j)
                        rw [Nat.add_sub_cancel] at hy
                        obtain ⟨g2, hg2e, hg2, d0, d1⟩ := ref_cells h4.out.2 hy
                        simp only [Option.some.injEq, Addr.mk.injEq, and_true] at hg2e
                        subst hg2e
                        have d0 := (hbi.cell (p := ⟨g, j * 2, none⟩) hg).trans d0
                        obtain ⟨yt, yc⟩ := y
                        simp only at d0 hyx
                        have hjd : decide ((0 : Int) < ((j + 1 : Nat) : Int)) = true := decide_eq_true (by omega)
                        have hyd : decide ((xt : Int) ≤ (yt : Int)) = false := decide_eq_false (by omega)
                        have hjm : ((j + 1 : Nat) : Int) - 1 = (j : Int) := by omega
                        clear hx hst hbi hprev hb0 hb1 hy d1
                        go_upto_region 28 with (fail)
                        go_quiet (fail)
                        go_wp2
                        refine ⟨⟨⟨j + 1 + 1, ?_, by rw [Int.natCast_add]; rfl, ?_, HI.out.drewN _⟩⟩, by simp only [intOf]; omega⟩
                        · have := (List.getElem?_eq_some_iff.1 HX.out.1).1; omega
                        · rw [HX.out.2]; simp only [Int.add_assoc]
                    · obtain rfl : j = R.length := by omega
                      have hljd : decide ((R.length : Int) < (R.length : Int)) = false := decide_eq_false (by omega)
                      rw [List.take_length]
                      have HI := Lib.hid (HSC.out.1.trans ((h4.out.1.trans (hbi.mono h4.out.1.size)).mono HSC.out.1.size))
                      clear hbi h4
                      go_wp2
                      refine ⟨⟨⟨k + 1, by omega, by rw [Int.natCast_add]; rfl, by rw [HSC.out.2], HI.out⟩⟩, by simp only [intOf]; omega⟩
                · obtain rfl : k = 40 := by omega
                  have hltd : decide (((40 : Nat) : Int) < 40) = false := by decide
                  rw [← HEQ.out]
                  have HFN := Lib.hid (HB3.out.1.trans (hbw.mono HB3.out.1.size))
                  clear hbw
                  go_wp2_with (go_at_call 9; refine (sanity_any _).mono ?_; rintro e w10 ⟨rfl, h10⟩)
                  go_ret
                  exact ⟨rfl, HFN.out.trans (h10.mono HFN.out.size)⟩
set_option maxRecDepth 100000 in
theorem volumeCounts_lifted (os : Os) (started : os.Started) (H : Type) (enc : TypeId × Value → H) :
    ReturnsInHanded {} Try.checked os 4 .any (Rows.volumeCountsSpec.pre6 enc Try.prog Try.f4 Rows.volumeCountsRow.domain false) (Rows.volumeCountsSpec.post enc Try.prog Try.f4 false true false false) := by
  refine returnsInHanded_of_change (C := Try.checked) law_own started (by kernel_rfl) Try.func4
    (ChangeSpec.witness6 (enc := enc) (C := Try.checked) false ⟨#[], #[.slice none 0 0], []⟩ 8 (by kernel_rfl) (by kernel_rfl) (by kernel_rfl) (by kernel_rfl)) ?_
  intro W base args ds gs before hval0 hW _ _
  have hval : ∀ (j : Nat) t v, Try.f4.params[j]? = some t → args[j]? = some v → Value.okWide Try.prog W .any base t v := hval0
  have hW' := hW
  obtain ⟨p, q, hA0, hV, rfl, _, _⟩ := hW
  have hA : DataW.TrodAll enc Try.prog W 0 (fun _ => true) true Try.f4.params.toList args.toList ds p := hA0
  rw [Try.params4] at hA hval
  obtain ⟨w0, vs0, d0, ds0, p0, q0, hargs, rfl, rfl, h0, r0⟩ := trodAll_cons hA
  obtain ⟨rfl, rfl, rfl⟩ := trodAll_nil r0
  obtain rfl : args = #[w0] := by cases args; simp_all
  obtain ⟨rfl, rfl⟩ := trodVars_none hV
  obtain ⟨v0, l0, e0, s0⟩ := rd_vscript (trod_rd h0)
  obtain ⟨x0, y0, z0, rfl⟩ := okWide_slice Try.underlying22 (hval 0 _ w0 rfl rfl)
  obtain rfl : .slice x0 y0 z0 = v0 := by simpa [Value.cells] using e0
  refine (counts_law _ l0 W s0).mono fun e W' ⟨he, hg⟩ => ?_
  subst he
  exact ⟨_, rfl, law_post (by kernel_rfl) rfl (of_decide_eq_true (by kernel_rfl)) rfl hW' hg⟩

theorem volumeCounts_holds : Rows.VolumeCountsSaid :=
  OpenClaim.holds_of_wide 4 Try.f4 rfl rfl rfl rfl rfl rfl rfl ⟨rfl, rfl, rfl, rfl, rfl⟩ rfl rfl rfl rfl rfl (by kernel_rfl) Try.func4 (by kernel_rfl)
    (of_decide_eq_true (by kernel_rfl)) (by unfold Func.isWrapper; first | (rw [if_pos (by decide +kernel)]; kernel_rfl) | (rw [if_neg (by decide +kernel)]; exact ⟨rfl, rfl⟩))
    (fun os started H enc _ => volumeCounts_lifted os started H enc)


end Go.Proofs.Ytednjhlkhecihaa
