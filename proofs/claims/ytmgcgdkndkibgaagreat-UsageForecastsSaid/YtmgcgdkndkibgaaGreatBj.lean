/- UsageForecasts: for every space that at most 80 operations build, a mapping of any at most 80 blocks, a snapshot, a clone and a restore change the use of the tenant that is concerned by what Grow, Snap, Clone and Restore return, and that of no other tenant. Printed by bj.py. -/
import Derived.Test.YtmgcgdkndkibgaaGreatBk
import Derived.Deep.CutRange
namespace Go.Proofs.YtmgcgdkndkibgaaGreat
open Go.RowKit Go.Vol Go.Sl Go.ChangeMaps Go.ChangeShapes Go.WideShapes Go.ChangeAt

structure OkSt (W : World) (L : List PartM) (v : Int) (o i : Value) (wr : World) : Prop where
  st : ∃ k : Nat, k ≤ L.length ∧ i = .int .i64 (k : Int) ∧ o = .int .i64 (ownK (L.take k) v) ∧ Hid (Below W.heap.size W wr)
structure FcSt (W : World) (S : SpaceM) (v : Int) (bl : List Int) (t i : Value) (wr : World) : Prop where
  st : ∃ (k p' : Nat), k ≤ bl.length ∧ i = .int .i64 (k : Int) ∧ t = .pointer (some ⟨p', 0, none⟩) ∧ Hid (Below W.heap.size W wr ∧ SpaceAt TNode TSp wr p' (runU S ((bl.take k).map fun b => ⟨4, v, b, 7⟩)))
set_option maxRecDepth 20000 in
set_option maxHeartbeats 16000000 in
theorem cast_law (sv : Value) (l : List VOp) (v s ten : Int) (bv : Value) (bl : List Int) (w : World) (hscr : ScrV w sv l) (hb : IntsAt w bv bl) :
    Calls Tryz.prog 7 #[sv, .int .i64 v, .int .i64 s, .int .i64 ten, bv] w fun e w' => e = .returned (.bool true) ∧ Below w.heap.size w w' := by
  by_cases hl : l.length ≤ 80
  · have HN := Lib.hid (build_both sv l w hscr hl)
    have HWF := Lib.hid (runU_wf SpaceM.WF.new l)
    generalize runU SpaceM.new l = S at HN HWF
    obtain ⟨ba, bc, rfl, hb0⟩ := id hb
    have HI := Lib.hid hb
    clear hscr hl hb hb0
    by_cases hbl : bl.length ≤ 80
    · have hbd : decide ((80 : Int) < (bl.length : Int)) = false := decide_eq_false (by omega)
      have hvl := HWF.out.vlen
      go_enter Tryz.func7, Tryz.ntmps7
      go_upto_region 4 with (go_at_call 9; refine HN.out.mono ?_; rintro e w1 ⟨p, va, vc, sa, sc, rfl, h1⟩)
      have hal := (Below.refl w1.heap.size w1).alloc (Nat.le_refl _) (.cells #[.slice va S.vols.length vc, .slice sa S.snaps.length sc] TRS)
      have HS := Lib.hid (h1.out.next hal)
      have hA := heap_alloc_new w1 (.cells #[.slice va S.vols.length vc, .slice sa S.snaps.length sc] TRS)
      clear h1 hal HN
      generalize w1.alloc (.cells #[.slice va S.vols.length vc, .slice sa S.snaps.length sc] TRS) = W at HS hA ⊢
      generalize w1.heap.size = A at hA ⊢
      have HII := Lib.hid (IntsAt.row HI.out HS.out.1)
      have c0 : W.cell? ⟨A, 0, none⟩ = some (.slice va S.vols.length vc) := cells_at hA 0
      clear hA HI
      go_wp2
      clear c0
      go_loopw [14, 51] (fun o i wr => OkSt W S.vols v o i wr) (fun _ i _ => S.vols.length - (intOf i).toNat)
      case atStart => exact ⟨⟨0, Nat.zero_le _, rfl, rfl, Below.refl _ _⟩⟩
      case round =>
        obtain ⟨k, hk, rfl, rfl, HX⟩ := hrel.st
        clear hrel
        by_cases hlt : k < S.vols.length
        · have hltd : decide ((k : Int) < (S.vols.length : Int)) = true := decide_eq_true (by omega)
          have hki : (k : Int) ≤ 256 := by omega
          obtain ⟨x, hx⟩ : ∃ x, S.vols[k]? = some x := ⟨_, List.getElem?_eq_getElem hlt⟩
          obtain ⟨g, pa, pc, hva, hg, e0, e1, e2, e3, hrow⟩ := part_at HS.out.2.2.v hx
          cases hva
          have e0 := (HX.out.cell (p := ⟨g, k * 4, none⟩) hg).trans e0
          have e1 := (HX.out.cell (p := ⟨g, k * 4 + 1, none⟩) hg).trans e1
          have e2 := (HX.out.cell (p := ⟨g, k * 4 + 2, none⟩) hg).trans e2
          have e3 := (HX.out.cell (p := ⟨g, k * 4 + 3, none⟩) hg).trans e3
          have HT := Lib.hid (ownK_take hx v)
          have hwk : IntKind.i64.wrap ((k : Int) + 1) = (k : Int) + 1 := IntWalk.i64_in _ (by omega)
          have HA := Lib.hid (HX.out.alloc HX.out.size (.cells #[.int .i64 x.id, .int .i64 x.tenant, .int .i64 x.src, .slice pa (items x.m).length pc] TP))
          clear hx hrow
          cases hid : (x.id == v)
          · go_wp2
            go_roundw
            case rel => exact ⟨⟨k + 1, hlt, rfl, by rw [HT.out, hid]; rfl, HA.out⟩⟩
            case measure => simp only [intOf]; omega
          · go_wp2
            go_roundw
            case rel => exact ⟨⟨k + 1, hlt, rfl, by rw [HT.out, hid]; rfl, HA.out⟩⟩
            case measure => simp only [intOf]; omega
        · obtain rfl : k = S.vols.length := by omega
          have hltd : decide ((S.vols.length : Int) < (S.vols.length : Int)) = false := decide_eq_false (by omega)
          have hnlt : ¬ (S.vols.length : Int) < (S.vols.length : Int) := by omega
          rw [List.take_length]
          have HOW := Lib.hid (fun (q : PartM) (hq : volF S v = some q) => ownK_vol HWF.out hq)
          generalize ownK S.vols v = ow at HOW ⊢
          have hcut := HX.out
          clear HX
          obtain ⟨wc, rfl⟩ : ∃ wc : World, wc = wr := ⟨_, rfl⟩
          go_upto_if 70 with (go_at_call 16; refine (ugrow_any p S v bl _ wc (HS.out.2.1.below hcut) (IntsAt.row HII.out hcut) (by omega)).mono ?_; rintro e x1 ⟨rfl, y1⟩; have HB := Lib.hid (hcut.trans (y1.mono hcut.size)); clear y1)
          clear hcut
          go_cut [] from 17 (fun wr => Below W.heap.size W wr)
          case first =>
            cases her : ((growM S v bl).2 == 0)
            · go_wp2
              go_meet
              case rel => exact HB.out
            · obtain ⟨q, hq, hnb, hn⟩ := growM_ok (eq_of_beq her)
              have HG := Lib.hid (show Grows S (runU S (bl.map fun b => ⟨4, v, b, 7⟩)) ow (growM S v bl).1 0 from by rw [HOW.out q hq, hn]; exact maps_grows hq bl hnb)
              clear hq hnb hn
              go_wp2
              go_loopw [19, 74] (fun t i wr => FcSt W S v bl t i wr) (fun _ i _ => bl.length - (intOf i).toNat)
              case atStart => exact ⟨⟨0, p, Nat.zero_le _, rfl, rfl, HB.out, HS.out.2.1.below HB.out⟩⟩
              case round =>
                obtain ⟨k, p', hk, rfl, rfl, HX⟩ := hrel.st
                clear hrel
                by_cases hlt : k < bl.length
                · have hltd : decide ((k : Int) < (bl.length : Int)) = true := decide_eq_true (by omega)
                  have hki : (k : Int) ≤ 80 := by omega
                  obtain ⟨x, hx⟩ : ∃ x, bl[k]? = some x := ⟨_, List.getElem?_eq_getElem hlt⟩
                  obtain ⟨ai, ci, e, hcell⟩ := id HII.out
                  simp only [Value.slice.injEq, true_and] at e
                  obtain ⟨rfl, rfl⟩ := e
                  obtain ⟨b, off, rfl, hcell2⟩ := hcell (by rintro rfl; simp at hlt)
                  have hcc := hcell2 k x hx
                  rw [Nat.mul_one] at hcc
                  have c0 : wr.cell? ⟨b, off + k, none⟩ = some (.int .i64 x) := (HX.out.1.cell (p := ⟨b, off + k, none⟩) (World.block_lt_of_cell? _ _ hcc)).trans hcc
                  have hwk : IntKind.i64.wrap ((k : Int) + 1) = (k : Int) + 1 := IntWalk.i64_in _ (by omega)
                  have HT := Lib.hid (show runU S ((bl.take (k + 1)).map fun b => ⟨4, v, b, 7⟩) = doM (runU S ((bl.take k).map fun b => ⟨4, v, b, 7⟩)) ⟨4, v, x, 7⟩ from by
                    rw [List.take_add_one, hx]
                    simp only [Option.toList_some, List.map_append, List.map_cons, List.map_nil]
                    unfold runU
                    rw [List.foldl_append]; rfl)
                  have HD := Lib.hid (lawdo_any p' _ ⟨4, v, x, 7⟩ wr HX.out.2 (runU_wf HWF.out _))
                  clear hx hcell hcell2 hcc
                  go_wp2_with (go_at_call 31; refine HD.out.mono ?_; rintro e x2 ⟨p2, rfl, h2⟩)
                  go_roundw
                  case rel => exact ⟨⟨k + 1, p2, hlt, rfl, rfl, HX.out.1.trans (h2.out.1.mono HX.out.1.size), by rw [HT.out]; exact h2.out.2⟩⟩
                  case measure => simp only [intOf]; omega
                · obtain rfl : k = bl.length := by omega
                  have hltd : decide ((bl.length : Int) < (bl.length : Int)) = false := decide_eq_false (by omega)
                  have hnlt : ¬ (bl.length : Int) < (bl.length : Int) := by omega
                  rw [List.take_length] at HX
                  go_wp2_with (go_at_call 32; refine (grown_any p p' S _ ow (growM S v bl).1 0 wr (HS.out.2.1.below HX.out.1) HWF.out HX.out.2 (runU_wf HWF.out _) HG.out).mono ?_; rintro e x3 ⟨rfl, h3⟩)
                  go_meet
                  case rel => exact HX.out.1.trans (h3.mono HX.out.1.size)
          case rest =>
            go_upto_if 101 with (go_at_call 18; refine (usnap_any p S v wc (HS.out.2.1.below hcut)).mono ?_; rintro e x1 ⟨rfl, y1⟩; have HB := Lib.hid (hcut.trans (y1.mono hcut.size)); clear y1)
            clear hcut
            go_cut [] from 17 (fun wr => Below W.heap.size W wr)
            case first =>
              cases her : ((contM S v).2 == 0)
              · go_wp2
                go_meet
                case rel => exact HB.out
              · obtain ⟨q, hq⟩ := contM_ok (eq_of_beq her)
                have HD := Lib.hid (lawdo_any p S ⟨6, v, 0, 0⟩ x1 (HS.out.2.1.below HB.out) HWF.out)
                cases hde : ((stepM S ⟨6, v, 0, 0⟩).e == 0)
                · go_wp2_with (go_at_call 31; refine HD.out.mono ?_; rintro e x2 ⟨p2, rfl, h2⟩)
                  go_meet
                  case rel => exact HB.out.trans (h2.out.1.mono HB.out.size)
                · have HG := Lib.hid (show Grows S (doM S ⟨6, v, 0, 0⟩) ow 0 ((contM S v).1.length : Int) from by rw [HOW.out q hq, contM_some hq, items_len]; exact snap_grows HWF.out hq (eq_of_beq hde))
                  go_wp2_with (first
                    | (go_at_call 31; refine HD.out.mono ?_; rintro e x2 ⟨p2, rfl, h2⟩; have HB2 := Lib.hid (HB.out.trans (h2.out.1.mono HB.out.size)))
                    | (go_at_call 32; refine (grown_any p p2 S (doM S ⟨6, v, 0, 0⟩) ow 0 ((contM S v).1.length : Int) x2 (HS.out.2.1.below HB2.out) HWF.out h2.out.2 (do_wf HWF.out) HG.out).mono ?_; rintro e x3 ⟨rfl, h3⟩))
                  go_meet
                  case rel => exact HB2.out.trans (h3.mono HB2.out.size)
            case rest =>
              go_upto_if 127 with (go_at_call 20; refine (uclone_any p S s wc (HS.out.2.1.below hcut)).mono ?_; rintro e x1 ⟨rfl, y1⟩; have HB := Lib.hid (hcut.trans (y1.mono hcut.size)); clear y1)
              clear hcut
              go_cut [] from 17 (fun wr => Below W.heap.size W wr)
              case first =>
                cases her : ((imageM S s).2 == 0)
                · go_wp2
                  go_meet
                  case rel => exact HB.out
                · obtain ⟨q, hq⟩ := imageM_ok (eq_of_beq her)
                  have HD := Lib.hid (lawdo_any p S ⟨8, s, ten, 0⟩ x1 (HS.out.2.1.below HB.out) HWF.out)
                  cases hde : ((stepM S ⟨8, s, ten, 0⟩).e == 0)
                  · go_wp2_with (go_at_call 31; refine HD.out.mono ?_; rintro e x2 ⟨p2, rfl, h2⟩)
                    go_meet
                    case rel => exact HB.out.trans (h2.out.1.mono HB.out.size)
                  · have HG := Lib.hid (show Grows S (doM S ⟨8, s, ten, 0⟩) ten ((imageM S s).1.length : Int) 0 from by rw [imageM_some hq, items_len]; exact clone_grows HWF.out hq (eq_of_beq hde))
                    go_wp2_with (first
                      | (go_at_call 31; refine HD.out.mono ?_; rintro e x2 ⟨p2, rfl, h2⟩; have HB2 := Lib.hid (HB.out.trans (h2.out.1.mono HB.out.size)))
                      | (go_at_call 32; refine (grown_any p p2 S (doM S ⟨8, s, ten, 0⟩) ten ((imageM S s).1.length : Int) 0 x2 (HS.out.2.1.below HB2.out) HWF.out h2.out.2 (do_wf HWF.out) HG.out).mono ?_; rintro e x3 ⟨rfl, h3⟩))
                    go_meet
                    case rel => exact HB2.out.trans (h3.mono HB2.out.size)
              case rest =>
                go_upto_if 155 with (go_at_call 22; refine (urest_any p S v s wc (HS.out.2.1.below hcut)).mono ?_; rintro e x1 ⟨rfl, y1⟩; have HB := Lib.hid (hcut.trans (y1.mono hcut.size)); clear y1)
                clear hcut
                go_cut [] from 17 (fun wr => Below W.heap.size W wr)
                case first =>
                  cases her : ((restM S v s).2 == 0)
                  · go_wp2
                    go_meet
                    case rel => exact HB.out
                  · obtain ⟨q, q2, hq, hq2⟩ := restM_ok (eq_of_beq her)
                    have HD := Lib.hid (lawdo_any p S ⟨9, v, s, 0⟩ x1 (HS.out.2.1.below HB.out) HWF.out)
                    cases hde : ((stepM S ⟨9, v, s, 0⟩).e == 0)
                    · go_wp2_with (go_at_call 31; refine HD.out.mono ?_; rintro e x2 ⟨p2, rfl, h2⟩)
                      go_meet
                      case rel => exact HB.out.trans (h2.out.1.mono HB.out.size)
                    · have HG := Lib.hid (show Grows S (doM S ⟨9, v, s, 0⟩) ow (restM S v s).1 0 from by rw [HOW.out q hq, rest_val hq hq2]; exact rest_grows hq hq2 (eq_of_beq hde))
                      go_wp2_with (first
                        | (go_at_call 31; refine HD.out.mono ?_; rintro e x2 ⟨p2, rfl, h2⟩; have HB2 := Lib.hid (HB.out.trans (h2.out.1.mono HB.out.size)))
                        | (go_at_call 32; refine (grown_any p p2 S (doM S ⟨9, v, s, 0⟩) ow (restM S v s).1 0 x2 (HS.out.2.1.below HB2.out) HWF.out h2.out.2 (do_wf HWF.out) HG.out).mono ?_; rintro e x3 ⟨rfl, h3⟩))
                      go_meet
                      case rel => exact HB2.out.trans (h3.mono HB2.out.size)
                case rest =>
                  go_wp2_with (go_at_call 10; refine (sanity_any _).mono ?_; rintro e w20 ⟨rfl, h20⟩)
                  go_ret
                  exact ⟨rfl, HS.out.1.trans ((hcut.trans (h20.mono hcut.size)).mono HS.out.1.size)⟩
    · have hbd : decide ((80 : Int) < (bl.length : Int)) = true := decide_eq_true (by omega)
      go_enter Tryz.func7, Tryz.ntmps7
      go_wp2_with (first
        | (go_at_call 9; refine HN.out.mono ?_; rintro e w1 ⟨p, va, vc, sa, sc, rfl, h1⟩)
        | (go_at_call 10; refine (sanity_any _).mono ?_; rintro e w2 ⟨rfl, h2⟩))
      go_ret
      have hal := (Below.refl w1.heap.size w1).alloc (Nat.le_refl _) (.cells #[.slice va S.vols.length vc, .slice sa S.snaps.length sc] TRS)
      exact ⟨rfl, ((h1.out.next hal).next h2).1⟩
  · have HN := Lib.hid (build_no sv l w hscr (by omega))
    unfold nilV at HN
    obtain ⟨ba, bc, rfl, hb0⟩ := id hb
    clear hscr hb hb0
    go_enter Tryz.func7, Tryz.ntmps7
    go_wp2_with (first
      | (go_at_call 9; refine HN.out.mono ?_; rintro e w1 ⟨rfl, h1⟩)
      | (go_at_call 10; refine (sanity_any _).mono ?_; rintro e w2 ⟨rfl, h2⟩))
    go_ret
    have hal := h1.alloc h1.size (.cells #[.slice none 0 0, .slice none 0 0] TRS)
    exact ⟨rfl, hal.trans (h2.mono hal.size)⟩
set_option maxRecDepth 100000 in
theorem usageForecasts_lifted (os : Os) (started : os.Started) (H : Type) (enc : TypeId × Value → H) :
    ReturnsInHanded {} Tryz.checked os 7 .any (Rows.usageForecastsSpec.pre6 enc Tryz.prog Tryz.f7 Rows.usageForecastsRow.domain false) (Rows.usageForecastsSpec.post enc Tryz.prog Tryz.f7 false true false false) := by
  refine returnsInHanded_of_change (C := Tryz.checked) law_own started (by kernel_rfl) Tryz.func7
    (ChangeSpec.witness6 (enc := enc) (C := Tryz.checked) false ⟨#[], #[.slice none 0 0, .int .i64 0, .int .i64 0, .int .i64 0, .slice none 0 0], []⟩ 8 (by kernel_rfl) (by kernel_rfl) (by kernel_rfl) (by kernel_rfl)) ?_
  intro W base args ds gs before hval0 hW _ _
  have hval : ∀ (j : Nat) t v, Tryz.f7.params[j]? = some t → args[j]? = some v → Value.okWide Tryz.prog W .any base t v := hval0
  have hW' := hW
  obtain ⟨p, q, hA0, hV, rfl, _, _⟩ := hW
  have hA : DataW.TrodAll enc Tryz.prog W 0 (fun _ => true) true Tryz.f7.params.toList args.toList ds p := hA0
  rw [Tryz.params7] at hA hval
  obtain ⟨w0, vs0, d0, ds0, p0, q0, hargs, rfl, rfl, h0, r0⟩ := trodAll_cons hA
  obtain ⟨w1, vs1, d1, ds1, p1, q1, rfl, rfl, rfl, h1, r1⟩ := trodAll_cons r0
  obtain ⟨w2, vs2, d2, ds2, p2, q2, rfl, rfl, rfl, h2, r2⟩ := trodAll_cons r1
  obtain ⟨w3, vs3, d3, ds3, p3, q3, rfl, rfl, rfl, h3, r3⟩ := trodAll_cons r2
  obtain ⟨w4, vs4, d4, ds4, p4, q4, rfl, rfl, rfl, h4, r4⟩ := trodAll_cons r3
  obtain ⟨rfl, rfl, rfl⟩ := trodAll_nil r4
  obtain rfl : args = #[w0, w1, w2, w3, w4] := by cases args; simp_all
  obtain ⟨rfl, rfl⟩ := trodVars_none hV
  obtain ⟨v0, l0, e0, s0⟩ := rd_vscript28 (trod_rd h0)
  obtain ⟨x0, y0, z0, rfl⟩ := okWide_slice Tryz.underlying22 (hval 0 _ w0 rfl rfl)
  obtain rfl : .slice x0 y0 z0 = v0 := by simpa [Value.cells] using e0
  obtain ⟨b1, rfl, rfl, rfl, wf1⟩ := open_int Tryz.underlying3 (hval 1 3 w1 rfl rfl) h1
  obtain ⟨b2, rfl, rfl, rfl, wf2⟩ := open_int Tryz.underlying3 (hval 2 3 w2 rfl rfl) h2
  obtain ⟨b3, rfl, rfl, rfl, wf3⟩ := open_int Tryz.underlying3 (hval 3 3 w3 rfl rfl) h3
  obtain ⟨v4, l4, e4, s4, m4⟩ := rd_ints (trod_rd h4)
  obtain ⟨x4, y4, z4, rfl⟩ := okWide_slice Tryz.underlying32 (hval 4 _ w4 rfl rfl)
  obtain rfl : .slice x4 y4 z4 = v4 := by simpa [Value.cells] using e4
  refine (cast_law _ l0 b1 b2 b3 _ l4 W s0 s4).mono fun e W' ⟨he, hg⟩ => ?_
  subst he
  exact ⟨_, rfl, law_post (by kernel_rfl) rfl (of_decide_eq_true (by kernel_rfl)) rfl hW' hg⟩

theorem usageForecasts_holds : Rows.UsageForecastsSaid :=
  OpenClaim.holds_of_wide 7 Tryz.f7 rfl rfl rfl rfl rfl rfl rfl ⟨rfl, rfl, rfl, rfl, rfl⟩ rfl rfl rfl rfl rfl (by kernel_rfl) Tryz.func7 (by kernel_rfl)
    (of_decide_eq_true (by kernel_rfl)) (by unfold Func.isWrapper; first | (rw [if_pos (by decide +kernel)]; kernel_rfl) | (rw [if_neg (by decide +kernel)]; exact ⟨rfl, rfl⟩))
    (fun os started H enc _ => usageForecasts_lifted os started H enc)

end Go.Proofs.YtmgcgdkndkibgaaGreat
