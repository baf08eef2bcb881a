/- VolumeBuildsAsSpecified: for every two lists of contents, the space or the error of Build is that of the specification. Printed by zj27.py. -/
import Derived.Test.YtednjhlkhecihaaYf
import Derived.Test.YtednjhlkhecihaaYd
import Derived.Test.YtednjhlkhecihaaWs
namespace Go.Proofs.Ytednjhlkhecihaa
open Go.RowKit Go.Vol Go.Sl Go.ChangeMaps Go.ChangeShapes Go.WideShapes Go.ChangeAt

structure SmallSt (w : World) (l : List ElC) (i : Value) (wr : World) : Prop where
  st : ∃ k : Nat, k ≤ l.length ∧ i = .int .i64 (k : Int) ∧ (∀ x ∈ l.take k, x.1.maps.length ≤ 40) ∧ Below w.heap.size w wr

set_option maxRecDepth 20000 in
set_option maxHeartbeats 4000000 in
theorem asSpec_law (va vb : Value) (A B : List ElC) (w : World) (hA : CntL w va A) (hB : CntL w vb B) :
    Calls Try.prog 8 #[va, vb] w fun e w' => e = .returned (.bool true) ∧ Below w.heap.size w w' := by
  obtain ⟨ao, acap, rfl, _⟩ := id hA.row
  obtain ⟨bo, bcap, rfl, _⟩ := id hB.row
  have HA := Lib.hid hA
  have HB := Lib.hid hB
  clear hA hB
  by_cases h1 : 20 < A.length
  · have h1d : decide ((20 : Int) < (A.length : Int)) = true := decide_eq_true (by omega)
    skip
    clear h1
    go_enter Try.func8, Try.ntmps8
    go_wp2_with (go_at_call 9; refine (sanity_any _).mono ?_; rintro e w10 ⟨rfl, h10⟩)
    go_ret
    exact ⟨rfl, h10⟩
  have h1d : decide ((20 : Int) < (A.length : Int)) = false := decide_eq_false (by omega)
  have hnA : A.length ≤ 20 := by omega
  by_cases h2 : 20 < B.length
  · have h2d : decide ((20 : Int) < (B.length : Int)) = true := decide_eq_true (by omega)
    skip
    clear h2
    go_enter Try.func8, Try.ntmps8
    go_wp2_with (go_at_call 9; refine (sanity_any _).mono ?_; rintro e w10 ⟨rfl, h10⟩)
    go_ret
    exact ⟨rfl, h10⟩
  have h2d : decide ((20 : Int) < (B.length : Int)) = false := decide_eq_false (by omega)
  have hnB : B.length ≤ 20 := by omega
  clear h1 h2
  go_enter Try.func8, Try.ntmps8
  go_wp2
  clear h1d h2d
  go_loopw [5] (fun i wr => SmallSt w A i wr) (fun i _ => A.length - (intOf i).toNat)
  case atStart => exact ⟨⟨0, Nat.zero_le _, rfl, fun z hz => absurd hz (by simp), Below.refl _ _⟩⟩
  case round =>
    obtain ⟨k, hk, rfl, hsmall, hbw⟩ := hrel.st
    clear hrel
    by_cases hlt : k < A.length
    · have hltd : decide ((k : Int) < (A.length : Int)) = true := decide_eq_true (by omega)
      have hki : (k : Int) ≤ 20 := by omega
      obtain ⟨x, hx⟩ : ∃ x, A[k]? = some x := ⟨_, List.getElem?_eq_getElem hlt⟩
      obtain ⟨xa, xc, hxs, _⟩ := id (HA.out.maps x (List.mem_of_getElem? hx))
      obtain ⟨g, off, rfl, hg, e0, e1, e2, e3⟩ := c_cells HA.out.row hx
      have e3 := (hbw.cell (p := ⟨g, off + k * 4 + 3, none⟩) hg).trans e3
      obtain ⟨⟨xi, xt, xs, its⟩, xv⟩ := x
      simp only at hxs
      subst hxs
      simp only at e3
      have HX := Lib.hid hx
      have HBx := Lib.hid (And.intro hbw hsmall)
      clear hx e0 e1 e2 hg hbw hsmall
      by_cases h40 : 40 < its.length
      · have h40d : decide ((40 : Int) < (its.length : Int)) = true := decide_eq_true (by omega)
        clear h40
        go_wp2_with (go_at_call 9; refine (sanity_any _).mono ?_; rintro e w10 ⟨rfl, h10⟩)
        go_ret
        exact ⟨rfl, HBx.out.1.trans (h10.mono HBx.out.1.size)⟩
      · have h40d : decide ((40 : Int) < (its.length : Int)) = false := decide_eq_false (by omega)
        have h40' : its.length ≤ 40 := by omega
        have H40 := Lib.hid h40'
        clear h40 h40'
        go_wp2
        refine ⟨⟨⟨k + 1, by omega, by rw [Int.natCast_add]; rfl, fun z hz => ?_, HBx.out.1⟩⟩, by simp only [intOf]; omega⟩
        rw [List.take_add_one, HX.out, Option.toList_some] at hz
        rcases List.mem_append.1 hz with hz | hz
        · exact HBx.out.2 z hz
        · obtain rfl : z = _ := List.mem_singleton.1 hz
          exact H40.out
    · have hke : k = A.length := by omega
      subst hke
      have hltd : decide ((A.length : Int) < (A.length : Int)) = false := decide_eq_false (by omega)
      rw [List.take_length] at hsmall
      have HM1 := Lib.hid hsmall
      have HBW1 := Lib.hid hbw
      clear hsmall hbw
      go_wp2
      clear hltd hlt hk
      go_loopw [6] (fun i wr => SmallSt w B i wr) (fun i _ => B.length - (intOf i).toNat)
      case atStart => exact ⟨⟨0, Nat.zero_le _, rfl, fun z hz => absurd hz (by simp), HBW1.out⟩⟩
      case round =>
        clear HBW1
        obtain ⟨k, hk, rfl, hsmall, hbw⟩ := hrel.st
        clear hrel
        by_cases hlt : k < B.length
        · have hltd : decide ((k : Int) < (B.length : Int)) = true := decide_eq_true (by omega)
          have hki : (k : Int) ≤ 20 := by omega
          obtain ⟨x, hx⟩ : ∃ x, B[k]? = some x := ⟨_, List.getElem?_eq_getElem hlt⟩
          obtain ⟨xa, xc, hxs, _⟩ := id (HB.out.maps x (List.mem_of_getElem? hx))
          obtain ⟨g, off, rfl, hg, e0, e1, e2, e3⟩ := c_cells HB.out.row hx
          have e3 := (hbw.cell (p := ⟨g, off + k * 4 + 3, none⟩) hg).trans e3
          obtain ⟨⟨xi, xt, xs, its⟩, xv⟩ := x
          simp only at hxs
          subst hxs
          simp only at e3
          have HX := Lib.hid hx
          have HBx := Lib.hid (And.intro hbw hsmall)
          clear hx e0 e1 e2 hg hbw hsmall
          by_cases h40 : 40 < its.length
          · have h40d : decide ((40 : Int) < (its.length : Int)) = true := decide_eq_true (by omega)
            clear h40
            go_wp2_with (go_at_call 9; refine (sanity_any _).mono ?_; rintro e w10 ⟨rfl, h10⟩)
            go_ret
            exact ⟨rfl, HBx.out.1.trans (h10.mono HBx.out.1.size)⟩
          · have h40d : decide ((40 : Int) < (its.length : Int)) = false := decide_eq_false (by omega)
            have h40' : its.length ≤ 40 := by omega
            have H40 := Lib.hid h40'
            clear h40 h40'
            go_wp2
            refine ⟨⟨⟨k + 1, by omega, by rw [Int.natCast_add]; rfl, fun z hz => ?_, HBx.out.1⟩⟩, by simp only [intOf]; omega⟩
            rw [List.take_add_one, HX.out, Option.toList_some] at hz
            rcases List.mem_append.1 hz with hz | hz
            · exact HBx.out.2 z hz
            · obtain rfl : z = _ := List.mem_singleton.1 hz
              exact H40.out
        · have hke : k = B.length := by omega
          subst hke
          have hltd : decide ((B.length : Int) < (B.length : Int)) = false := decide_eq_false (by omega)
          rw [List.take_length] at hsmall
          have HM2 := Lib.hid hsmall
          have HBW := Lib.hid hbw
          clear hsmall hbw
          by_cases hv : validS (A.map Prod.fst) (B.map Prod.fst)
          · have HV := Lib.hid hv
            clear hv
            go_upto_region 14 with (go_at_call 23; refine (buildG_any _ _ A B wr (HA.out.below HBW.out) (HB.out.below HBW.out) hnA hnB HM1.out HM2.out).mono ?_; rintro e W2 h2; rcases h2.out.2 with ⟨_, q, rfl, hsp⟩ | ⟨hno, _⟩; rotate_left; exact absurd HV.out hno)
            have HSP := Lib.hid (And.intro h2.out.1 hsp)
            clear h2 hsp
            have hb2 := HBW.out.trans (HSP.out.1.mono HBW.out.size)
            go_upto_region 15 with (go_at_call 26; refine (rbuild_any _ _ A B W2 (HA.out.below hb2) (HB.out.below hb2) hnA hnB HM1.out HM2.out).mono ?_; rintro e W3 h3; rcases h3.out.2 with ⟨_, xa, xb, rfl, hrf⟩ | ⟨hno, _⟩; rotate_left; exact absurd HV.out hno; obtain ⟨ra, rc, rfl, _⟩ := hrf.v.slice; obtain ⟨sa, sc, rfl, _⟩ := hrf.s.slice)
            have HR3 := Lib.hid (And.intro h3.out.1 hrf)
            have hb3 := hb2.trans (HR3.out.1.mono hb2.size)
            have hb4 := (Below.refl W3.heap.size W3).alloc (Nat.le_refl _) (.cells #[.slice ra (spaceC (A.map Prod.fst) (B.map Prod.fst)).vols.length rc, .slice sa (spaceC (A.map Prod.fst) (B.map Prod.fst)).snaps.length sc] TRS)
            have hx4 := heap_alloc_new W3 (.cells #[.slice ra (spaceC (A.map Prod.fst) (B.map Prod.fst)).vols.length rc, .slice sa (spaceC (A.map Prod.fst) (B.map Prod.fst)).snaps.length sc] TRS)
            have H4 := Lib.hid (And.intro (hb3.trans (hb4.mono hb3.size)) (And.intro ((HSP.out.2.below HR3.out.1).below hb4) (HR3.out.2.below hb4)))
            generalize W3.alloc (.cells #[.slice ra (spaceC (A.map Prod.fst) (B.map Prod.fst)).vols.length rc, .slice sa (spaceC (A.map Prod.fst) (B.map Prod.fst)).snaps.length sc] TRS) = W4 at hx4 H4 ⊢
            clear hb4 hb3 hb2 h3 hrf
            generalize W3.heap.size = N at hx4 ⊢
            have HX4 := Lib.hid hx4
            clear hx4 HSP HR3
            go_wp2_with (first
              | (go_at_call 9; refine (sanity_any _).mono ?_; rintro e w10 ⟨rfl, h10⟩; have hx10 := (h10.block N (Array.getElem?_eq_some_iff.1 HX4.out).1).trans HX4.out; have n0 := cells_at hx10 0; have n1 := cells_at hx10 1)
              | (go_at_call 25; refine (same27_anyO q _ _ _ _ (H4.out.2.1.below h10) (spaceC_wf HV.out) (H4.out.2.2.below h10)).mono ?_; rintro e w11 ⟨rfl, h11⟩))
            go_ret
            exact ⟨rfl, (H4.out.1.trans (h10.mono H4.out.1.size)).trans (h11.mono (H4.out.1.trans (h10.mono H4.out.1.size)).size)⟩
          · have HV := Lib.hid hv
            clear hv
            go_upto_region 14 with (go_at_call 23; refine (buildG_any _ _ A B wr (HA.out.below HBW.out) (HB.out.below HBW.out) hnA hnB HM1.out HM2.out).mono ?_; rintro e W2 h2; rcases h2.out.2 with ⟨hno, _⟩ | ⟨_, rfl⟩; exact absurd hno HV.out)
            have hb2 := HBW.out.trans (h2.out.1.mono HBW.out.size)
            go_upto_region 15 with (go_at_call 26; refine (rbuild_any _ _ A B W2 (HA.out.below hb2) (HB.out.below hb2) hnA hnB HM1.out HM2.out).mono ?_; rintro e W3 h3; rcases h3.out.2 with ⟨hno, _⟩ | ⟨_, rfl⟩; exact absurd hno HV.out)
            have hb3 := hb2.trans (h3.out.1.mono hb2.size)
            have hb4 := hb3.alloc hb3.size (.cells #[.slice none 0 0, .slice none 0 0] TRS)
            have H4 := Lib.hid hb4
            clear hb4 hb3 hb2 h2 h3
            go_wp2_with (go_at_call 9; refine (sanity_any _).mono ?_; rintro e w10 ⟨rfl, h10⟩)
            go_ret
            exact ⟨rfl, H4.out.trans (h10.mono H4.out.size)⟩
set_option maxRecDepth 100000 in
theorem volumeBuildsAsSpecified_lifted (os : Os) (started : os.Started) (H : Type) (enc : TypeId × Value → H) :
    ReturnsInHanded {} Try.checked os 8 .any (Rows.volumeBuildsAsSpecifiedSpec.pre6 enc Try.prog Try.f8 Rows.volumeBuildsAsSpecifiedRow.domain false) (Rows.volumeBuildsAsSpecifiedSpec.post enc Try.prog Try.f8 false true false false) := by
  refine returnsInHanded_of_change (C := Try.checked) law_own started (by kernel_rfl) Try.func8
    (ChangeSpec.witness6 (enc := enc) (C := Try.checked) false ⟨#[], #[.slice none 0 0, .slice none 0 0], []⟩ 8 (by kernel_rfl) (by kernel_rfl) (by kernel_rfl) (by kernel_rfl)) ?_
  intro W base args ds gs before hval0 hW _ _
  have hval : ∀ (j : Nat) t v, Try.f8.params[j]? = some t → args[j]? = some v → Value.okWide Try.prog W .any base t v := hval0
  have hW' := hW
  obtain ⟨p, q, hA0, hV, rfl, _, _⟩ := hW
  have hA : DataW.TrodAll enc Try.prog W 0 (fun _ => true) true Try.f8.params.toList args.toList ds p := hA0
  rw [Try.params8] at hA hval
  obtain ⟨w0, vs0, d0, ds0, p0, q0, hargs, rfl, rfl, h0, r0⟩ := trodAll_cons hA
  obtain ⟨w1, vs1, d1, ds1, p1, q1, rfl, rfl, rfl, h1, r1⟩ := trodAll_cons r0
  obtain ⟨rfl, rfl, rfl⟩ := trodAll_nil r1
  obtain rfl : args = #[w0, w1] := by cases args; simp_all
  obtain ⟨rfl, rfl⟩ := trodVars_none hV
  obtain ⟨v0, l0, e0, s0⟩ := rd_contents (trod_rd h0)
  obtain ⟨x0, y0, z0, rfl⟩ := okWide_slice Try.underlying63 (hval 0 _ w0 rfl rfl)
  obtain rfl : .slice x0 y0 z0 = v0 := by simpa [Value.cells] using e0
  obtain ⟨v1, l1, e1, s1⟩ := rd_contents (trod_rd h1)
  obtain ⟨x1, y1, z1, rfl⟩ := okWide_slice Try.underlying63 (hval 1 _ w1 rfl rfl)
  obtain rfl : .slice x1 y1 z1 = v1 := by simpa [Value.cells] using e1
  refine (asSpec_law _ _ l0 l1 W s0 s1).mono fun e W' ⟨he, hg⟩ => ?_
  subst he
  exact ⟨_, rfl, law_post (by kernel_rfl) rfl (of_decide_eq_true (by kernel_rfl)) rfl hW' hg⟩

theorem volumeBuildsAsSpecified_holds : Rows.VolumeBuildsAsSpecifiedSaid :=
  OpenClaim.holds_of_wide 8 Try.f8 rfl rfl rfl rfl rfl rfl rfl ⟨rfl, rfl, rfl, rfl, rfl⟩ rfl rfl rfl rfl rfl (by kernel_rfl) Try.func8 (by kernel_rfl)
    (of_decide_eq_true (by kernel_rfl)) (by unfold Func.isWrapper; first | (rw [if_pos (by decide +kernel)]; kernel_rfl) | (rw [if_neg (by decide +kernel)]; exact ⟨rfl, rfl⟩))
    (fun os started H enc _ => volumeBuildsAsSpecified_lifted os started H enc)


end Go.Proofs.Ytednjhlkhecihaa
