/- VolumeSnapshotsStay: a snapshot maps the same blocks to the same chunks, whatever is done afterwards, until it is dropped; and a space that was returned earlier does not change. Printed by zw27.py. -/
import Derived.Test.YtednjhlkhecihaaWc
import Derived.Test.YtednjhlkhecihaaWv
import Derived.Test.YtednjhlkhecihaaZw
namespace Go.Proofs.Ytednjhlkhecihaa
open Go.RowKit Go.Vol Go.Sl Go.ChangeMaps Go.ChangeShapes Go.WideShapes Go.ChangeAt

/-- The second loop: the snapshot is kept. -/
structure StayV (w : World) (l : List VOp) (sp : List (Nat × SpaceM)) (rw : List (Value × List (Nat × Int))) (snap : Int) (q : PartM) (s i : Value) (wr : World) : Prop where
  st : ∃ (k p : Nat) (T : SpaceM), k ≤ l.length ∧ i = .int .i64 (k : Int) ∧ s = .pointer (some ⟨p, 0, none⟩) ∧ Hid (FactsV w ((p, T) :: sp) rw wr ∧ T.WF ∧ snapF T snap = some q)
theorem snap_keep {S : SpaceM} {vol : Int} (hw : S.WF) (h0 : (contM S vol).2 = 0) (h1 : (stepM S ⟨6, vol, 0, 0⟩).e = 0) : ∃ q, snapF (doM S ⟨6, vol, 0, 0⟩) (stepM S ⟨6, vol, 0, 0⟩).id = some q ∧ (contM S vol).1 = items q.m := by
  obtain ⟨p, hp⟩ := contM_ok h0
  have hs : stepM S ⟨6, vol, 0, 0⟩ = S.snapshot vol := by simp [stepM]
  rw [hs] at h1 ⊢
  rcases snapshot_link S vol with ⟨_, T, hT⟩ | ⟨h, _⟩
  · obtain ⟨q, h2, h3⟩ := snapshot_new hw hT hp
    have hd : doM S ⟨6, vol, 0, 0⟩ = T := by unfold doM; rw [hs, hT]
    rw [hd]
    exact ⟨q, h2, by unfold contM; rw [hp, h3]⟩
  · exact absurd h1 h
theorem imageM_of {S : SpaceM} {v : Int} {q : PartM} (h : snapF S v = some q) : imageM S v = (items q.m, 0) := by unfold imageM; rw [h]

set_option maxRecDepth 20000 in
set_option maxHeartbeats 4000000 in
theorem stay_law (sv : Value) (l : List VOp) (fr vol : Int) (w : World) (hscr : ScrV w sv l) :
    Calls Try.prog 5 #[sv, .int .i64 fr, .int .i64 vol] w fun e w' => e = .returned (.bool true) ∧ Below w.heap.size w w' := by
  obtain ⟨ao, cap, rfl, hm, hc⟩ := hscr
  have HC := Lib.hid hc
  have HM := Lib.hid hm
  clear hc hm
  by_cases h1 : 60 < l.length
  · have h1d : decide ((60 : Int) < (l.length : Int)) = true := decide_eq_true (by omega)
    clear h1
    go_enter Try.func5, Try.ntmps5
    go_wp2_with (go_at_call 9; refine (sanity_any _).mono ?_; rintro e w10 ⟨rfl, h10⟩)
    go_ret
    exact ⟨rfl, h10⟩
  have h1d : decide ((60 : Int) < (l.length : Int)) = false := decide_eq_false (by omega)
  have hlen : l.length ≤ 60 := by omega
  clear h1
  by_cases h2 : fr < 0
  · have h2d : decide (fr < 0) = true := decide_eq_true h2
    clear h2
    go_enter Try.func5, Try.ntmps5
    go_wp2_with (go_at_call 9; refine (sanity_any _).mono ?_; rintro e w10 ⟨rfl, h10⟩)
    go_ret
    exact ⟨rfl, h10⟩
  have h2d : decide (fr < 0) = false := decide_eq_false h2
  by_cases h3 : (l.length : Int) < fr
  · have h3d : decide ((l.length : Int) < fr) = true := decide_eq_true h3
    clear h3 h2
    go_enter Try.func5, Try.ntmps5
    go_wp2_with (go_at_call 9; refine (sanity_any _).mono ?_; rintro e w10 ⟨rfl, h10⟩)
    go_ret
    exact ⟨rfl, h10⟩
  have h3d : decide ((l.length : Int) < fr) = false := decide_eq_false h3
  obtain ⟨n, rfl⟩ := Int.eq_ofNat_of_zero_le (show 0 ≤ fr by omega)
  have hnl : n ≤ l.length := by omega
  clear h2 h3
  have HN := Lib.hid (new_any w)
  go_enter Try.func5, Try.ntmps5
  go_wp2_with (go_at_call 10; refine HN.out.mono ?_; rintro e w1 ⟨p0, rfl, h1⟩)
  clear h2d h3d h1d
  go_loopw [7, 8] (fun s i wr => RunSt w (l.take n) s i wr) (fun _ i _ => n - (intOf i).toNat)
  case atStart => exact ⟨0, p0, Nat.zero_le _, rfl, rfl, h1⟩
  case round =>
    clear h1 HN
    obtain ⟨k, p, hk, rfl, rfl, HS⟩ := hrel.st
    clear hrel
    rw [List.length_take, Nat.min_eq_left hnl] at hk
    by_cases hlt : k < n
    · have hltd : decide ((k : Int) < (n : Int)) = true := decide_eq_true (by omega)
      have hki : (k : Int) ≤ 60 := by omega
      have hkl : k < l.length := by omega
      have hltl : decide ((k : Int) < (l.length : Int)) = true := decide_eq_true (by omega)
      obtain ⟨o, ho⟩ : ∃ o, l[k]? = some o := ⟨_, List.getElem?_eq_getElem hkl⟩
      have ho2 : (l.take n)[k]? = some o := by rw [List.getElem?_take, if_pos hlt]; exact ho
      obtain ⟨g, off, rfl, hcell⟩ := HC.out (by rintro rfl; simp at hkl)
      have hcw := fun i u hu => (HS.out.1.cell (World.block_lt_of_cell? _ _ (hcell k o ho i u hu))).trans (hcell k o ho i u hu)
      have c0 := hcw 0 _ rfl; have c1 := hcw 1 _ rfl; have c2 := hcw 2 _ rfl; have c3 := hcw 3 _ rfl
      rw [Nat.add_zero] at c0
      have HD := Lib.hid (And.intro (do_any p _ o wr HS.out.2 (runV_wf SpaceM.WF.new _)) (runV_take ho2 SpaceM.new))
      obtain ⟨od, oa, ob, oc⟩ := o
      clear hcell hcw ho ho2
      go_wp2_with (go_at_call 11; refine HD.out.1.mono ?_; rintro e w2 ⟨p', rfl, h2⟩)
      refine ⟨⟨k + 1, p', by rw [List.length_take]; omega, rfl, rfl, ⟨HS.out.1.trans (h2.out.1.mono HS.out.1.size), by rw [HD.out.2]; exact h2.out.2⟩⟩, ?_⟩
      simp only [intOf]; omega
    · obtain rfl : k = n := by omega
      have hltd : decide ((k : Int) < (k : Int)) = false := decide_eq_false (by omega)
      have hwf := runV_wf SpaceM.WF.new ((l.take k).take k)
      generalize runV SpaceM.new ((l.take k).take k) = S at HS hwf
      have HW := Lib.hid (And.intro hwf (do_wf (o := ⟨6, vol, 0, 0⟩) hwf))
      have HA := Lib.hid (FactsV.start HS.out.1 HS.out.2)
      clear hwf HS
      go_upto_region 10 with (first
        | (go_at_call 18; refine (contS_any p S vol _ (HA.out.sp (p, S) (by simp))).mono ?_; rintro e w2 ⟨r1, rfl, h2⟩; replace HA := Lib.hid ((HA.out.next h2.out.1).addR h2.out.2); clear h2)
        | (go_at_call 11; refine (do_any p S ⟨6, vol, 0, 0⟩ _ (HA.out.sp (p, S) (by simp)) HW.out.1).mono ?_; rintro e w3 ⟨q, rfl, h3⟩; replace HA := Lib.hid ((HA.out.next h3.out.1).addS h3.out.2); clear h3))
      by_cases he : (contM S vol).2 = 0
      · have hed : ((contM S vol).2 != 0) = false := by simp [he]
        by_cases hf : (stepM S ⟨6, vol, 0, 0⟩).e = 0
        · have hfd : ((stepM S ⟨6, vol, 0, 0⟩).e != 0) = false := by simp [hf]
          obtain ⟨part, hq1, hq2⟩ := snap_keep HW.out.1 he hf
          have HE := Lib.hid (And.intro he (And.intro hq2 hq1))
          have HT := Lib.hid HW.out.2
          clear he hf hq1 hq2
          go_upto_region 14 with (fail)
          rw [HE.out.2.1] at HA
          generalize hT : doM S ⟨6, vol, 0, 0⟩ = T at HA HE HT ⊢
          generalize (stepM S ⟨6, vol, 0, 0⟩).id = snap at HE ⊢
          clear hfd hed hT hltd hk hlt
          go_loopw [11, 15] (fun s i wr => StayV w l [(q, T), (p, S)] [(r1, items part.m)] snap part s i wr) (fun _ i _ => l.length - (intOf i).toNat)
          case atStart => exact ⟨k, q, T, hnl, rfl, rfl, (HA.out.addS (HA.out.sp (q, T) (by simp))), HT.out, HE.out.2.2⟩
          case round =>
            clear HA
            obtain ⟨j, q', T', hj, rfl, rfl, HS⟩ := hrel.st
            clear hrel
            by_cases hlt : j < l.length
            · have hltd : decide ((j : Int) < (l.length : Int)) = true := decide_eq_true (by omega)
              have hki : (j : Int) ≤ 60 := by omega
              obtain ⟨o, ho⟩ : ∃ o, l[j]? = some o := ⟨_, List.getElem?_eq_getElem hlt⟩
              obtain ⟨g, off, rfl, hcell⟩ := HC.out (by rintro rfl; simp at hlt)
              have hcw := fun i u hu => (HS.out.1.bl.cell (World.block_lt_of_cell? _ _ (hcell j o ho i u hu))).trans (hcell j o ho i u hu)
              have c0 := hcw 0 _ rfl; have c1 := hcw 1 _ rfl; have c2 := hcw 2 _ rfl; have c3 := hcw 3 _ rfl
              rw [Nat.add_zero] at c0
              have HD := Lib.hid (do_any q' T' o _ (HS.out.1.sp (q', T') (by simp)) HS.out.2.1)
              have HK := Lib.hid (fun h : ¬ (o.d = 7 ∧ o.a = snap) => doM_snap (o := o) HS.out.2.1 h HS.out.2.2)
              have HWF := Lib.hid (do_wf (o := o) HS.out.2.1)
              obtain ⟨od, oa, ob, oc⟩ := o
              clear hcell hcw ho
              by_cases h7 : od = 7
              · have h7d : (od == 7) = true := by simp [h7]
                by_cases hs : oa = snap
                · have hsd : (oa == snap) = true := by simp [hs]
                  clear h7 hs HK
                  go_wp2
                  refine ⟨⟨j + 1, q', T', by omega, rfl, rfl, HS⟩, ?_⟩
                  simp only [intOf]; omega
                · have hsd : (oa == snap) = false := by simp [hs]
                  have HK2 := Lib.hid (HK.out fun h => hs h.2)
                  clear h7 hs HK
                  go_wp2_with (go_at_call 11; refine HD.out.mono ?_; rintro e w2 ⟨p', rfl, h2⟩)
                  refine ⟨⟨j + 1, p', _, by omega, rfl, rfl, ⟨?_, HWF.out, HK2.out⟩⟩, ?_⟩
                  · have h9 := HS.out.1.next h2.out.1
                    exact (FactsV.mk h9.bl (fun x hx => h9.sp x (List.mem_cons_of_mem _ hx)) h9.rw).addS h2.out.2
                  · simp only [intOf]; omega
              · have h7d : (od == 7) = false := by simp [h7]
                have HK2 := Lib.hid (HK.out fun h => h7 h.1)
                clear h7 HK
                go_wp2_with (go_at_call 11; refine HD.out.mono ?_; rintro e w2 ⟨p', rfl, h2⟩)
                refine ⟨⟨j + 1, p', _, by omega, rfl, rfl, ⟨?_, HWF.out, HK2.out⟩⟩, ?_⟩
                · have h9 := HS.out.1.next h2.out.1
                  exact (FactsV.mk h9.bl (fun x hx => h9.sp x (List.mem_cons_of_mem _ hx)) h9.rw).addS h2.out.2
                · simp only [intOf]; omega
            · obtain rfl : j = l.length := by omega
              have hltd : decide ((l.length : Int) < (l.length : Int)) = false := decide_eq_false (by omega)
              have HA := Lib.hid HS.out.1
              have HI := Lib.hid (And.intro (imageM_of HS.out.2.2) (And.intro (imageM_of HE.out.2.2) (show contM S vol = (items part.m, 0) from Prod.ext HE.out.2.1 HE.out.1)))
              clear HC HS
              go_upto_region 19 with (go_at_call 19; refine (imgS_any q' T' snap _ (HA.out.sp (q', T') (by simp))).mono ?_; rintro e w2 ⟨r2, rfl, h2⟩; rw [HI.out.1]; replace HA := Lib.hid ((HA.out.next h2.out.1).addR (by have := h2.out.2; rwa [HI.out.1] at this)); clear h2)
              go_upto_region 20 with (go_at_call 19; refine (imgS_any q T snap _ (HA.out.sp (q, T) (by simp))).mono ?_; rintro e w3 ⟨r3, rfl, h2⟩; rw [HI.out.2.1]; replace HA := Lib.hid ((HA.out.next h2.out.1).addR (by have := h2.out.2; rwa [HI.out.2.1] at this)); clear h2)
              go_upto_region 21 with (go_at_call 18; refine (contS_any p S vol _ (HA.out.sp (p, S) (by simp))).mono ?_; rintro e w4 ⟨r4, rfl, h2⟩; rw [HI.out.2.2]; replace HA := Lib.hid ((HA.out.next h2.out.1).addR (by have := h2.out.2; rwa [HI.out.2.2] at this)); clear h2)
              go_wp2_with (first
                | (go_at_call 9; refine (sanity_any _).mono ?_; rintro e w10 ⟨rfl, h10⟩; replace HA := Lib.hid (HA.out.next h10); clear h10)
                | (go_at_call 20; with_reducible refine (maps_any r2 r1 (items part.m) (items part.m) _ (HA.out.rw (r2, items part.m) (by simp)) (HA.out.rw (r1, items part.m) (by simp))).mono ?_; rintro e w5 ⟨rfl, h5⟩; rw [decide_eq_true (show items part.m = items part.m from rfl)]; replace HA := Lib.hid (HA.out.next h5); clear h5)
                | (go_at_call 20; with_reducible refine (maps_any r3 r1 (items part.m) (items part.m) _ (HA.out.rw (r3, items part.m) (by simp)) (HA.out.rw (r1, items part.m) (by simp))).mono ?_; rintro e w5 ⟨rfl, h5⟩; rw [decide_eq_true (show items part.m = items part.m from rfl)]; replace HA := Lib.hid (HA.out.next h5); clear h5)
                | (go_at_call 20; with_reducible refine (maps_any r4 r1 (items part.m) (items part.m) _ (HA.out.rw (r4, items part.m) (by simp)) (HA.out.rw (r1, items part.m) (by simp))).mono ?_; rintro e w5 ⟨rfl, h5⟩; rw [decide_eq_true (show items part.m = items part.m from rfl)]; replace HA := Lib.hid (HA.out.next h5); clear h5))
              go_ret
              exact ⟨rfl, HA.out.bl⟩
        · have hfd : ((stepM S ⟨6, vol, 0, 0⟩).e != 0) = true := by simp [hf]
          clear he hf HC
          go_wp2_with (go_at_call 9; refine (sanity_any _).mono ?_; rintro e w10 ⟨rfl, h10⟩; replace HA := Lib.hid (HA.out.next h10); clear h10)
          go_ret
          exact ⟨rfl, HA.out.bl⟩
      · have hed : ((contM S vol).2 != 0) = true := by simp [he]
        clear he HC
        go_wp2_with (go_at_call 9; refine (sanity_any _).mono ?_; rintro e w10 ⟨rfl, h10⟩; replace HA := Lib.hid (HA.out.next h10); clear h10)
        go_ret
        exact ⟨rfl, HA.out.bl⟩
set_option maxRecDepth 100000 in
theorem volumeSnapshotsStay_lifted (os : Os) (started : os.Started) (H : Type) (enc : TypeId × Value → H) :
    ReturnsInHanded {} Try.checked os 5 .any (Rows.volumeSnapshotsStaySpec.pre6 enc Try.prog Try.f5 Rows.volumeSnapshotsStayRow.domain false) (Rows.volumeSnapshotsStaySpec.post enc Try.prog Try.f5 false true false false) := by
  refine returnsInHanded_of_change (C := Try.checked) law_own started (by kernel_rfl) Try.func5
    (ChangeSpec.witness6 (enc := enc) (C := Try.checked) false ⟨#[], #[.slice none 0 0, .int .i64 0, .int .i64 0], []⟩ 8 (by kernel_rfl) (by kernel_rfl) (by kernel_rfl) (by kernel_rfl)) ?_
  intro W base args ds gs before hval0 hW _ _
  have hval : ∀ (j : Nat) t v, Try.f5.params[j]? = some t → args[j]? = some v → Value.okWide Try.prog W .any base t v := hval0
  have hW' := hW
  obtain ⟨p, q, hA0, hV, rfl, _, _⟩ := hW
  have hA : DataW.TrodAll enc Try.prog W 0 (fun _ => true) true Try.f5.params.toList args.toList ds p := hA0
  rw [Try.params5] at hA hval
  obtain ⟨w0, vs0, d0, ds0, p0, q0, hargs, rfl, rfl, h0, r0⟩ := trodAll_cons hA
  obtain ⟨w1, vs1, d1, ds1, p1, q1, rfl, rfl, rfl, h1, r1⟩ := trodAll_cons r0
  obtain ⟨w2, vs2, d2, ds2, p2, q2, rfl, rfl, rfl, h2, r2⟩ := trodAll_cons r1
  obtain ⟨rfl, rfl, rfl⟩ := trodAll_nil r2
  obtain rfl : args = #[w0, w1, w2] := by cases args; simp_all
  obtain ⟨rfl, rfl⟩ := trodVars_none hV
  obtain ⟨v0, l0, e0, s0⟩ := rd_vscript (trod_rd h0)
  obtain ⟨x0, y0, z0, rfl⟩ := okWide_slice Try.underlying22 (hval 0 _ w0 rfl rfl)
  obtain rfl : .slice x0 y0 z0 = v0 := by simpa [Value.cells] using e0
  obtain ⟨b1, rfl, rfl, rfl, wf1⟩ := open_int Try.underlying3 (hval 1 3 w1 rfl rfl) h1
  obtain ⟨b2, rfl, rfl, rfl, wf2⟩ := open_int Try.underlying3 (hval 2 3 w2 rfl rfl) h2
  refine (stay_law _ l0 b1 b2 W s0).mono fun e W' ⟨he, hg⟩ => ?_
  subst he
  exact ⟨_, rfl, law_post (by kernel_rfl) rfl (of_decide_eq_true (by kernel_rfl)) rfl hW' hg⟩

theorem volumeSnapshotsStay_holds : Rows.VolumeSnapshotsStaySaid :=
  OpenClaim.holds_of_wide 5 Try.f5 rfl rfl rfl rfl rfl rfl rfl ⟨rfl, rfl, rfl, rfl, rfl⟩ rfl rfl rfl rfl rfl (by kernel_rfl) Try.func5 (by kernel_rfl)
    (of_decide_eq_true (by kernel_rfl)) (by unfold Func.isWrapper; first | (rw [if_pos (by decide +kernel)]; kernel_rfl) | (rw [if_neg (by decide +kernel)]; exact ⟨rfl, rfl⟩))
    (fun os started H enc _ => volumeSnapshotsStay_lifted os started H enc)


end Go.Proofs.Ytednjhlkhecihaa
