import Derived.Test.YteikbikopgabjaaGreatDoorV52
/- Part 53 of a proof; the last part says what is proved. -/
namespace Go.Proofs.YteikbikopgabjaaGreatDoor
open Go.RowKit Go.Sha Go.Sl Go.GF Go.Vol Go.Loss
structure CtS (w3 : World) (S : SpaceM) (l : List ItM) (all i : Value) (wr : World) : Prop where
  st : ∃ k : Nat, k ≤ l.length ∧ i = .int .i64 (k : Int) ∧ all = .int .i64 (cumL S l k) ∧ Below w3.heap.size w3 wr
structure CiS (w3 : World) (c : Int) (R : List (Nat × Int)) (all j : Value) (wr : World) : Prop where
  st : ∃ k : Nat, k ≤ R.length ∧ j = .int .i64 (k : Int) ∧ all = .int .i64 (c + sumR (R.take k)) ∧ Below w3.heap.size w3 wr
structure CsS (w3 : World) (T : List Int) (sum j : Value) (wr : World) : Prop where
  st : ∃ k : Nat, k ≤ T.length ∧ j = .int .i64 (k : Int) ∧ sum = .int .i64 ((T.take k).sum) ∧ Below w3.heap.size w3 wr
theorem sumI_take {L : List Int} {k : Nat} {x : Int} (h : L[k]? = some x) : (L.take (k + 1)).sum = (L.take k).sum + x := by
  rw [List.take_add_one, h, List.sum_append]; simp
theorem tally_take_bound (es : List EachE) (h : es.length ≤ 960) : ∀ k, 0 ≤ ((tallyL es).take k).sum ∧ ((tallyL es).take k).sum ≤ 960 * (k : Int)
  | 0 => by simp
  | k + 1 => by
    have ih := tally_take_bound es h k
    by_cases hk : k < 16
    · rw [sumI_take (tallyL_at es hk)]
      have := countP_ten es k
      push_cast
      omega
    · rw [List.take_of_length_le (by rw [tallyL_len]; omega)] at ih ⊢
      push_cast
      omega
theorem report_960 {A B : List ElC} {l : List ItM} (h : GoodP A B l) : (reportL (A.map Prod.fst) (B.map Prod.fst) l).length ≤ 960 := by
  unfold reportL
  rw [List.length_append]
  have h1 := partL_bound (f := false) (l := l) h.1.1 h.1.2.2.2.1
  have h2 := partL_bound (f := true) (l := l) h.1.2.1 h.1.2.2.2.2
  omega
theorem eachT_ten {A B : List ElC} {l : List ItM} (h : validS (A.map Prod.fst) (B.map Prod.fst)) : ∀ e ∈ eachT (A.map Prod.fst) (B.map Prod.fst) l, 0 ≤ e.1 ∧ e.1 < 16 := by
  intro e he
  unfold eachT at he
  rcases List.mem_append.1 he with he | he
  · obtain ⟨c, hc, he⟩ := List.mem_flatMap.1 he
    obtain ⟨g, -, rfl⟩ := List.mem_map.1 he
    exact ten_of h.1 c hc
  · obtain ⟨c, hc, he⟩ := List.mem_flatMap.1 he
    obtain ⟨g, -, rfl⟩ := List.mem_map.1 he
    exact ten_of h.2.1 c hc
set_option maxRecDepth 20000 in
set_option maxHeartbeats 4000000 in
theorem countslaw_any (va vb vi : Value) (A B : List ElC) (l : List ItM) (w : World) (hA : CntL w va A) (hB : CntL w vb B) (hca : CapOk va) (hcb : CapOk vb) (hI : ItL w vi l) (hK : TabK w) (hT : TabF w) :
    Calls Tryz.prog 6 #[.agg #[va, vb, vi]] w fun e w' => e = .returned (.bool true) ∧ Below w.heap.size w w' := by
  have HSA := Lib.hid (fun W (hb : Below w.heap.size w W) => sanity41_any W (hK.below hb) (hT.below hb))
  have HBD := Lib.hid (fun W (hb : Below w.heap.size w W) => build_any41 va vb vi A B l W (hA.below hb) (hB.below hb) (hI.below hb) (hK.below hb))
  have HB1 := Lib.hid (al_below w (.cells #[va, vb, vi] TIn41))
  have HX1 := Lib.hid (inBox_alloc w va vb vi)
  have HI := Lib.hid (fun W (h : Below w.heap.size w W) => RowsO.below hI h)
  obtain ⟨ao, ac, rfl, -⟩ := id hA.row
  obtain ⟨bo, bc, rfl, -⟩ := id hB.row
  obtain ⟨io, ic, rfl, -⟩ := id hI
  clear hA hB hI hK hT hca hcb
  go_enter Tryz.func6, Tryz.ntmps6
  go_upto_region 1 with (fail)
  generalize w.alloc (.cells #[.slice ao A.length ac, .slice bo B.length bc, .slice io l.length ic] TIn41) = w1 at HB1 HX1 ⊢
  obtain ⟨g, hgq⟩ : ∃ g, g = w.heap.size := ⟨_, rfl⟩
  rw [← hgq] at HX1 ⊢
  have HGQ := Lib.hid hgq
  clear hgq
  go_upto_region 5 with (first
    | (go_at_call 9; refine (HSA.out w1 HB1.out).mono ?_; rintro e w2 ⟨rfl, h2⟩; have HW2 := Lib.hid (And.intro (HB1.out.trans (h2.mono HB1.out.size)) (HX1.out.below h2)); clear h2; have a0 := HW2.out.2.c0; have a1 := HW2.out.2.c1; have a2 := HW2.out.2.c2)
    | (go_at_call 10; refine (HBD.out w2 HW2.out.1).mono ?_; rintro e w3 h3; rcases h3.out with ⟨hgood, q, p, rfl, hbt⟩ | ⟨hng, rfl, h4⟩))
  rotate_left
  · have HB3 := Lib.hid (HW2.out.1.trans (h4.mono HW2.out.1.size))
    clear h3 h4 a0 a1 a2
    go_wp2
    go_ret
    exact ⟨rfl, HB3.out⟩
  obtain ⟨b, cp, rb, hsp, htr, hb3⟩ := built_read hbt hgood.1.2.2.1
  have HB3 := Lib.hid (show Below w.heap.size w w3 from HW2.out.1.trans (hb3.mono HW2.out.1.size))
  have HX3 := Lib.hid (HW2.out.2.below hb3)
  have HSP := Lib.hid (fun W (h : Below w3.heap.size w3 W) => hsp.below h)
  have HTR := Lib.hid (fun W (h : Below w3.heap.size w3 W) => htr.below h)
  have HGP := Lib.hid hgood
  have HWF := Lib.hid (spaceC_wf hgood.2)
  have HSM := Lib.hid (small_space hgood)
  have HLE := Lib.hid (lossR_eq (L := chunksM l) hgood.2 (lostC_chunks l))
  have HEE := Lib.hid (each_eq (L := chunksM l) hgood.2 (lostC_chunks l))
  have HCL := Lib.hid (cumL_all (l := l) hgood.2)
  have HER := Lib.hid (each_report (A.map Prod.fst) (B.map Prod.fst) l)
  have HTS := Lib.hid (tally_sum _ (eachT_ten (l := l) hgood.2))
  have H960 := Lib.hid (report_960 hgood)
  obtain ⟨n, hn⟩ : ∃ n, n = (reportL (A.map Prod.fst) (B.map Prod.fst) l).length := ⟨_, rfl⟩
  have HN := Lib.hid hn
  have H40 := Lib.hid hgood.1.2.2.1
  obtain ⟨S, hS⟩ : ∃ S, S = spaceC (A.map Prod.fst) (B.map Prod.fst) := ⟨_, rfl⟩
  rw [← hS] at HSP HWF HSM HLE HEE HCL
  have HLR := Lib.hid (fun W (h : Below w3.heap.size w3 W) => report_any q S p b cp rb (chunksM l) W (HSP.out W h) HWF.out HSM.out (HTR.out W h))
  have HLT := Lib.hid (fun W (h : Below w3.heap.size w3 W) => tally_any q S p b cp rb (chunksM l) W (HSP.out W h) HWF.out HSM.out (HTR.out W h))
  have HRF := Lib.hid (fun c W (h : Below w3.heap.size w3 W) => refsS_any q S c W (HSP.out W h) HWF.out)
  clear h3 hgood hbt hsp htr hb3 a0 a1 a2 HW2 HB1 HX1 HSA HBD hS hn HTR HSM
  go_upto_region 6 with (go_at_call 12; refine (HLR.out w3 (Below.refl _ _)).mono ?_; rintro e w4 ⟨v7, rfl, h4, h5⟩; rw [HLE.out] at h5; unfold ownG at h5; rw [← HN.out] at h5; have HB4 := Lib.hid (h4.below_of h5); obtain ⟨ro, rc, rfl⟩ := ownAt_slice h5; clear h4 h5)
  have H0 := Lib.hid (show CtS w3 S l (.int .i64 0) (.int .i64 0) w4 from ⟨0, Nat.zero_le _, rfl, rfl, HB4.out⟩)
  clear HB4
  go_upto_region 8 with (fail)
  go_loopw [8, 9] (fun a i wr => CtS w3 S l a i wr) (fun _ i _ => l.length - (intOf i).toNat)
  case atStart => exact H0.out
  case round =>
    clear H0
    obtain ⟨k, hk, rfl, rfl, hb⟩ := hrel.st
    clear hrel
    have hk40 : (k : Int) ≤ 40 := by have := H40.out; omega
    have HBW := Lib.hid hb
    have hcb := cumL_bound HWF.out l k
    have HCS := Lib.hid (cumL_succ S l k)
    have x2 := (HX3.out.below hb).c2
    clear hb
    by_cases hin : k < l.length
    · have hid : decide ((k : Int) < (l.length : Int)) = true := decide_eq_true (by omega)
      have hwk : IntKind.i64.wrap ((k : Int) + 1) = (k : Int) + 1 := IntWalk.i64_in _ (by omega)
      obtain ⟨⟨x, lost⟩, hx⟩ : ∃ x, l[k]? = some x := ⟨_, List.getElem?_eq_getElem hin⟩
      obtain ⟨ib, ioff, rfl, hib, i1, i2⟩ := it_cells (HI.out wr (HB3.out.trans (HBW.out.mono HB3.out.size))) hx
      dsimp only at i2
      obtain ⟨c, hc⟩ : ∃ c, c = cumL S l k := ⟨_, rfl⟩
      rw [← hc] at hcb HCS ⊢
      have hla : lostAt l k = lost := by unfold lostAt; rw [hx]
      rw [hla] at HCS
      clear hc i1 hib hx hla
      cases lost with
      | false =>
        have HE := Lib.hid (show CtS w3 S l (.int .i64 c) (.int .i64 ((k : Int) + 1)) wr from ⟨k + 1, hin, by push_cast; rfl, by rw [HCS.out, if_neg (by decide), Int.add_zero], HBW.out⟩)
        go_wp2
        go_roundw
        case rel => exact HE.out
        case measure => simp only [intOf]; omega
      | true =>
        rw [if_pos rfl] at HCS
        have HR5 := Lib.hid (HRF.out (((k : Nat) : Int) + 1) wr HBW.out)
        have HRB := Lib.hid (fun j => refs_bound HWF.out (((k : Nat) : Int) + 1) j)
        have HR16 := Lib.hid (show (refsS S (((k : Nat) : Int) + 1)).length ≤ 16 from refsF_len (cntS S _) 16)
        generalize refsS S (((k : Nat) : Int) + 1) = R at HCS HR5 HRB HR16
        go_upto_region 12 with (go_at_call 25; refine HR5.out.mono ?_; rintro e w5 ⟨v10, rfl, h6⟩; have HB5 := Lib.hid (HBW.out.trans (h6.out.1.mono HBW.out.size)); have HR6 := Lib.hid (RowsO.of h6.out.2); clear h6; obtain ⟨ro5, rc5, rfl, -, -⟩ := id HR6.out)
        have H1 := Lib.hid (show CiS w3 c R (.int .i64 c) (.int .i64 0) w5 from ⟨0, Nat.zero_le _, rfl, by simp [sumR], HB5.out⟩)
        have HR7 := Lib.hid (fun W (h : Below w5.heap.size w5 W) => HR6.out.below h)
        clear x2 i2 HBW HR5
        go_upto_region 13 with (fail)
        go_loopw [8, 11] (fun a j wr => CiS w5 c R a j wr) (fun _ j _ => R.length - (intOf j).toNat)
        case atStart =>
          obtain ⟨k0, h1, h2, h3, h4⟩ := H1.out.st
          exact ⟨⟨k0, h1, h2, h3, Below.refl _ _⟩⟩
        case round =>
          clear H1
          obtain ⟨j, hj, rfl, rfl, hb⟩ := hrel.st
          clear hrel
          have HBJ := Lib.hid hb
          clear hb
          have hR16 := HR16.out
          have hjb := HRB.out j
          have hj16 : (j : Int) ≤ 16 := by omega
          by_cases hjn : j < R.length
          · have hjd : decide ((j : Int) < (R.length : Int)) = true := decide_eq_true (by omega)
            have hwj : IntKind.i64.wrap ((j : Int) + 1) = (j : Int) + 1 := IntWalk.i64_in _ (by omega)
            obtain ⟨y, hy⟩ : ∃ y, R[j]? = some y := ⟨_, List.getElem?_eq_getElem hjn⟩
            have hjb2 := HRB.out (j + 1)
            have HST := Lib.hid (sumR_take hy)
            rw [HST.out] at hjb2
            obtain ⟨gb, off, rfl, hgb, hrg⟩ := rows_at refE_len (HR7.out wr HBJ.out) hy
            have c1 : wr.cell? ⟨gb, off + j * 2 + 1, none⟩ = some (.int .i64 y.2) := hrg 1 _ rfl
            obtain ⟨s, hs⟩ : ∃ s, s = sumR (R.take j) := ⟨_, rfl⟩
            rw [← hs] at hjb hjb2 HST ⊢
            have HE := Lib.hid (show CiS w5 c R (.int .i64 (c + s + y.2)) (.int .i64 ((j : Int) + 1)) wr from ⟨j + 1, hjn, by push_cast; rfl, by rw [HST.out, Int.add_assoc], HBJ.out⟩)
            have hwc : IntKind.i64.wrap (c + s + y.2) = c + s + y.2 := IntWalk.i64_in _ (by omega)
            clear hs hrg hy
            go_wp2
            go_roundw
            case rel => exact HE.out
            case measure => simp only [intOf]; omega
          · have hje : j = R.length := by omega
            have hjd : decide ((j : Int) < (R.length : Int)) = false := decide_eq_false (by omega)
            have HE := Lib.hid (show CtS w3 S l (.int .i64 (c + sumR (R.take j))) (.int .i64 ((k : Int) + 1)) wr from ⟨k + 1, hin, by push_cast; rfl, by rw [HCS.out, hje, List.take_length], HB5.out.trans (HBJ.out.mono HB5.out.size)⟩)
            generalize c + sumR (R.take j) = z at HE ⊢
            clear hjb
            go_wp2
            go_roundw
            case rel => exact HE.out
            case measure => simp only [intOf]; omega
    · have hke : k = l.length := by omega
      have hid : decide ((k : Int) < (l.length : Int)) = false := decide_eq_false (by omega)
      rw [hke] at hid ⊢
      rw [HCL.out, ← HN.out]
      have hn960 : (n : Int) ≤ 960 := by have := H960.out; rw [← HN.out] at this; omega
      have HLT5 := Lib.hid (HLT.out wr HBW.out)
      rw [HEE.out] at HLT5
      have HTL := Lib.hid (tallyL_len (eachT (A.map Prod.fst) (B.map Prod.fst) l))
      have HTM := Lib.hid (show (tallyL (eachT (A.map Prod.fst) (B.map Prod.fst) l)).sum = (n : Int) by rw [HTS.out, HN.out, ← HER.out, List.length_map])
      have HTB := Lib.hid (tally_take_bound (eachT (A.map Prod.fst) (B.map Prod.fst) l) (by rw [← List.length_map (f := Prod.snd), HER.out]; exact H960.out))
      generalize tallyL (eachT (A.map Prod.fst) (B.map Prod.fst) l) = T at HLT5 HTL HTM HTB
      clear hcb HCS hke hin
      go_wp2_with (go_at_call 15; refine HLT5.out.mono ?_; rintro e w5 ⟨v12, rfl, h4, h5⟩; have HB5 := Lib.hid (HBW.out.trans ((h4.below_of h5).mono HBW.out.size)); have HT5 := Lib.hid h5; obtain ⟨tO, tC, rfl⟩ := ownAt_slice h5; clear h4 h5)
      have H1 := Lib.hid (show CsS w5 T (.int .i64 0) (.int .i64 0) w5 from ⟨0, Nat.zero_le _, rfl, rfl, Below.refl _ _⟩)
      go_loopw [13, 14] (fun s j wr => CsS w5 T s j wr) (fun _ j _ => 16 - (intOf j).toNat)
      case atStart => exact H1.out
      case round =>
        clear H1
        obtain ⟨j, hj, rfl, rfl, hb⟩ := hrel.st
        clear hrel
        rw [HTL.out] at hj
        have hjb := HTB.out j
        have hj16 : (j : Int) ≤ 16 := by omega
        have HBJ := Lib.hid hb
        clear hb
        by_cases hjn : j < 16
        · have hjd : decide ((j : Int) < 16) = true := decide_eq_true (by omega)
          have hwj : IntKind.i64.wrap ((j : Int) + 1) = (j : Int) + 1 := IntWalk.i64_in _ (by omega)
          obtain ⟨y, hy⟩ : ∃ y, T[j]? = some y := ⟨_, List.getElem?_eq_getElem (by rw [HTL.out]; exact hjn)⟩
          have HST := Lib.hid (sumI_take hy)
          have hjb2 := HTB.out (j + 1)
          rw [HST.out] at hjb2
          obtain ⟨gt, ct, e, hc⟩ := ownAt_cells HT5.out (by omega)
          cases e
          have c1 : wr.cell? ⟨gt, j, none⟩ = some (.int .i64 y) := by
            have h0 := hc j _ (intsV_at hy)
            exact (HBJ.out.cell (World.block_lt_of_cell? _ _ h0)).trans h0
          obtain ⟨s, hs⟩ : ∃ s, s = (T.take j).sum := ⟨_, rfl⟩
          rw [← hs] at hjb hjb2 HST ⊢
          have HE := Lib.hid (show CsS w5 T (.int .i64 (s + y)) (.int .i64 ((j : Int) + 1)) wr from ⟨j + 1, by rw [HTL.out]; exact hjn, by push_cast; rfl, by rw [HST.out], HBJ.out⟩)
          have hwc : IntKind.i64.wrap (s + y) = s + y := IntWalk.i64_in _ (by push_cast at hjb hjb2; omega)
          clear hs hc hy hjb hjb2
          go_wp2
          go_roundw
          case rel => exact HE.out
          case measure => simp only [intOf]; omega
        · have hje : j = 16 := by omega
          have hjd : decide ((j : Int) < 16) = false := decide_eq_false (by omega)
          rw [hje, List.take_of_length_le (by rw [HTL.out]; exact Nat.le_refl _), HTM.out]
          have hnn : ((n : Int) == (n : Int)) = true := by simp
          have HBF := Lib.hid (HB3.out.trans ((HB5.out.trans (HBJ.out.mono HB5.out.size)).mono HB3.out.size))
          rw [hje] at hjd
          clear hjb hje hj hjn hj16
          go_wp2
          go_ret
          exact ⟨rfl, HBF.out⟩
end Go.Proofs.YteikbikopgabjaaGreatDoor
