/- VolumesSeparate: an operation on one volume, or on a snapshot, changes no other volume. Printed by zw27.py. -/
import Derived.Test.YtednjhlkhecihaaWc
import Derived.Test.YtednjhlkhecihaaWv
import Derived.Test.YtednjhlkhecihaaZv
namespace Go.Proofs.Ytednjhlkhecihaa
open Go.RowKit Go.Vol Go.Sl Go.ChangeMaps Go.ChangeShapes Go.WideShapes Go.ChangeAt

/-- What lies in a world: spaces, and rows of mappings. -/
structure FactsV (w : World) (sp : List (Nat × SpaceM)) (rw : List (Value × List (Nat × Int))) (W : World) : Prop where
  bl : Below w.heap.size w W
  sp : ∀ x ∈ sp, SpaceAt TNode TSp W x.1 x.2
  rw : ∀ x ∈ rw, RowsAt W x.1 x.2.length (x.2.flatMap refE)
theorem FactsV.next {w W W' : World} {sp : List (Nat × SpaceM)} {rw : List (Value × List (Nat × Int))} (h : FactsV w sp rw W) (hb : Below W.heap.size W W') : FactsV w sp rw W' :=
  ⟨h.bl.trans (hb.mono h.bl.size), fun x hx => (h.sp x hx).below hb, fun x hx => (h.rw x hx).below hb⟩
theorem FactsV.addS {w W : World} {sp : List (Nat × SpaceM)} {rw : List (Value × List (Nat × Int))} (h : FactsV w sp rw W) {p : Nat} {S : SpaceM} (hs : SpaceAt TNode TSp W p S) : FactsV w ((p, S) :: sp) rw W :=
  ⟨h.bl, fun x hx => by rcases List.mem_cons.1 hx with rfl | hx; exact hs; exact h.sp x hx, h.rw⟩
theorem FactsV.start {w W : World} {p : Nat} {S : SpaceM} (hb : Below w.heap.size w W) (hs : SpaceAt TNode TSp W p S) : FactsV w [(p, S)] [] W :=
  FactsV.addS (sp := []) ⟨hb, fun x hx => absurd hx (by simp), fun x hx => absurd hx (by simp)⟩ hs
theorem FactsV.addR {w W : World} {sp : List (Nat × SpaceM)} {rw : List (Value × List (Nat × Int))} (h : FactsV w sp rw W) {v : Value} {A : List (Nat × Int)} (hs : RowsAt W v A.length (A.flatMap refE)) : FactsV w sp ((v, A) :: rw) W :=
  ⟨h.bl, h.sp, fun x hx => by rcases List.mem_cons.1 hx with rfl | hx; exact hs; exact h.rw x hx⟩

set_option maxRecDepth 20000 in
set_option maxHeartbeats 4000000 in
theorem sep_law (sv : Value) (l : List VOp) (o : VOp) (other : Int) (w : World) (hscr : ScrV w sv l) :
    Calls Try.prog 6 #[sv, .agg (vopA o).toArray, .int .i64 other] w fun e w' => e = .returned (.bool true) ∧ Below w.heap.size w w' := by
  obtain ⟨ao, cap, rfl, hm, hc⟩ := hscr
  obtain ⟨od, oa, ob, oc⟩ := o
  simp only [vopA]
  have HC := Lib.hid hc
  have HM := Lib.hid hm
  clear hc hm
  by_cases h1 : 60 < l.length
  · have h1d : decide ((60 : Int) < (l.length : Int)) = true := decide_eq_true (by omega)
    clear h1
    go_enter Try.func6, Try.ntmps6
    go_wp2_with (go_at_call 9; refine (sanity_any _).mono ?_; rintro e w10 ⟨rfl, h10⟩)
    go_ret
    exact ⟨rfl, ((Below.refl _ w).alloc (Nat.le_refl _) _).trans (h10.mono (by simp))⟩
  have h1d : decide ((60 : Int) < (l.length : Int)) = false := decide_eq_false (by omega)
  have hlen : l.length ≤ 60 := by omega
  clear h1
  go_enter Try.func6, Try.ntmps6
  go_upto_region 3 with (fail)
  have hb0 := (Below.refl w.heap.size w).alloc (Nat.le_refl _) (.cells #[.int .i64 od, .int .i64 oa, .int .i64 ob, .int .i64 oc] TVOp)
  have hbx := heap_alloc_new w (.cells #[.int .i64 od, .int .i64 oa, .int .i64 ob, .int .i64 oc] TVOp)
  have hsz : w.heap.size < (w.alloc (.cells #[.int .i64 od, .int .i64 oa, .int .i64 ob, .int .i64 oc] TVOp)).heap.size := by simp
  generalize w.alloc (.cells #[.int .i64 od, .int .i64 oa, .int .i64 ob, .int .i64 oc] TVOp) = W0 at hb0 hbx hsz ⊢
  generalize w.heap.size = B at hbx hsz ⊢ 
  have HN := Lib.hid (new_any W0)
  have HB := Lib.hid (And.intro hb0 (And.intro hbx hsz))
  clear hb0 hbx hsz
  go_wp2_with (go_at_call 10; refine HN.out.mono ?_; rintro e w1 ⟨p0, rfl, h1⟩)
  go_loopw [7, 8] (fun s i wr => RunSt W0 l s i wr) (fun _ i _ => l.length - (intOf i).toNat)
  case atStart => exact ⟨0, p0, Nat.zero_le _, rfl, rfl, h1⟩
  case round =>
    clear h1 HN
    obtain ⟨k, p, hk, rfl, rfl, HS⟩ := hrel.st
    clear hrel
    by_cases hlt : k < l.length
    · have hltd : decide ((k : Int) < (l.length : Int)) = true := decide_eq_true (by omega)
      have hki : (k : Int) ≤ 60 := by omega
      obtain ⟨o, ho⟩ : ∃ o, l[k]? = some o := ⟨_, List.getElem?_eq_getElem hlt⟩
      obtain ⟨g, off, rfl, hcell⟩ := HC.out (by rintro rfl; simp at hlt)
      have hcw := fun i u hu => ((HB.out.1.trans (HS.out.1.mono HB.out.1.size)).cell (World.block_lt_of_cell? _ _ (hcell k o ho i u hu))).trans (hcell k o ho i u hu)
      have c0 := hcw 0 _ rfl; have c1 := hcw 1 _ rfl; have c2 := hcw 2 _ rfl; have c3 := hcw 3 _ rfl
      rw [Nat.add_zero] at c0
      have HD := Lib.hid (And.intro (do_any p _ o wr HS.out.2 (runV_wf SpaceM.WF.new _)) (runV_take ho SpaceM.new))
      obtain ⟨od, oa, ob, oc⟩ := o
      clear hcell hcw ho
      go_wp2_with (go_at_call 11; refine HD.out.1.mono ?_; rintro e w2 ⟨p', rfl, h2⟩)
      refine ⟨⟨k + 1, p', by omega, rfl, rfl, ⟨HS.out.1.trans (h2.out.1.mono HS.out.1.size), by rw [HD.out.2]; exact h2.out.2⟩⟩, ?_⟩
      simp only [intOf]; omega
    · obtain rfl : k = l.length := by omega
      have hltd : decide ((l.length : Int) < (l.length : Int)) = false := decide_eq_false (by omega)
      rw [List.take_length] at HS
      have hwf := runV_wf SpaceM.WF.new l
      generalize runV SpaceM.new l = S at HS hwf
      have HW := Lib.hid (And.intro hwf (do_wf (o := ⟨od, oa, ob, oc⟩) hwf))
      have HCT := Lib.hid (contS_any p S other wr HS.out.2)
      have HA := Lib.hid (FactsV.start (HB.out.1.trans (HS.out.1.mono HB.out.1.size)) HS.out.2)
      clear hwf HC
      by_cases he : (contM S other).2 = 0
      · have hed : ((contM S other).2 != 0) = false := by simp [he]
        go_upto_region 9 with (go_at_call 18; refine HCT.out.mono ?_; rintro e w2 ⟨r1, rfl, h2⟩)
        have hblk := ((HS.out.1.trans (h2.out.1.mono HS.out.1.size)).block B HB.out.2.2).trans HB.out.2.1
        have b0 := cells_at hblk 0; have b1 := cells_at hblk 1; have b2 := cells_at hblk 2; have b3 := cells_at hblk 3
        replace HA := Lib.hid ((HA.out.next h2.out.1).addR h2.out.2)
        clear hblk h2 HCT HS
        by_cases ht : oa = other
        · have htd : (oa == other) = true := by simp [ht]
          by_cases hd : od = 2 ∨ od = 3 ∨ od = 4 ∨ od = 5 ∨ od = 9
          · clear he ht HW
            rcases hd with rfl | rfl | rfl | rfl | rfl <;>
            · go_wp2_with (go_at_call 9; refine (sanity_any _).mono ?_; rintro e w10 ⟨rfl, h10⟩)
              go_ret
              exact ⟨rfl, (HA.out.next h10).bl⟩
          · have hs := separate (o := ⟨od, oa, ob, oc⟩) HW.out.1 (fun h => hd h.2) he
            have HE := Lib.hid (And.intro he hs)
            have d2 : (od == 2) = false := by simp; omega
            have d3 : (od == 3) = false := by simp; omega
            have d4 : (od == 4) = false := by simp; omega
            have d5 : (od == 5) = false := by simp; omega
            have d9 : (od == 9) = false := by simp; omega
            clear he hs hd ht
            go_upto_region 11 with (fail)
            have HDO := Lib.hid (do_any p S ⟨od, oa, ob, oc⟩ w2 (HA.out.sp (p, S) (by simp)) HW.out.1)
            go_wp2_with (first
              | (go_at_call 11; refine HDO.out.mono ?_; rintro e w3 ⟨q, rfl, h3⟩; clear b0 b1 b2 b3; replace HA := Lib.hid ((HA.out.next h3.out.1).addS h3.out.2); clear h3)
              | (go_at_call 18; refine (contS_any q (doM S ⟨od, oa, ob, oc⟩) other _ (HA.out.sp (q, doM S ⟨od, oa, ob, oc⟩) (by simp))).mono ?_; rintro e w4 ⟨r2, rfl, h4⟩; rw [HE.out.2.1, HE.out.1]; replace HA := Lib.hid ((HA.out.next h4.out.1).addR (by have := h4.out.2; rwa [HE.out.2.1] at this)); clear h4)
              | (go_at_call 9; refine (sanity_any _).mono ?_; rintro e w10 ⟨rfl, h10⟩; replace HA := Lib.hid (HA.out.next h10); clear h10)
              | (go_at_call 20; refine (maps_any r1 r2 (contM S other).1 (contM S other).1 _ (HA.out.rw (r1, (contM S other).1) (by simp)) (HA.out.rw (r2, (contM S other).1) (by simp))).mono ?_; rintro e w5 ⟨rfl, h5⟩; rw [decide_eq_true (show (contM S other).1 = (contM S other).1 from rfl)]; replace HA := Lib.hid (HA.out.next h5); clear h5)
              | (go_at_call 21; with_reducible refine (ten_any p S other _ (HA.out.sp (p, S) (by simp)) HW.out.1).mono ?_; rintro e w6 ⟨rfl, h6⟩; replace HA := Lib.hid (HA.out.next h6); clear h6)
              | (go_at_call 21; with_reducible refine (ten_any q (doM S ⟨od, oa, ob, oc⟩) other _ (HA.out.sp (q, doM S ⟨od, oa, ob, oc⟩) (by simp)) HW.out.2).mono ?_; rintro e w6 ⟨rfl, h6⟩; rw [HE.out.2.2]; replace HA := Lib.hid (HA.out.next h6); clear h6))
            go_ret
            exact ⟨rfl, HA.out.bl⟩
        · have htd : (oa == other) = false := by simp [ht]
          have hs := separate (o := ⟨od, oa, ob, oc⟩) HW.out.1 (fun h => ht h.1) he
          have HE := Lib.hid (And.intro he hs)
          clear he hs ht
          go_upto_region 11 with (fail)
          have HDO := Lib.hid (do_any p S ⟨od, oa, ob, oc⟩ w2 (HA.out.sp (p, S) (by simp)) HW.out.1)
          go_wp2_with (first
            | (go_at_call 11; refine HDO.out.mono ?_; rintro e w3 ⟨q, rfl, h3⟩; clear b0 b1 b2 b3; replace HA := Lib.hid ((HA.out.next h3.out.1).addS h3.out.2); clear h3)
            | (go_at_call 18; refine (contS_any q (doM S ⟨od, oa, ob, oc⟩) other _ (HA.out.sp (q, doM S ⟨od, oa, ob, oc⟩) (by simp))).mono ?_; rintro e w4 ⟨r2, rfl, h4⟩; rw [HE.out.2.1, HE.out.1]; replace HA := Lib.hid ((HA.out.next h4.out.1).addR (by have := h4.out.2; rwa [HE.out.2.1] at this)); clear h4)
            | (go_at_call 9; refine (sanity_any _).mono ?_; rintro e w10 ⟨rfl, h10⟩; replace HA := Lib.hid (HA.out.next h10); clear h10)
            | (go_at_call 20; refine (maps_any r1 r2 (contM S other).1 (contM S other).1 _ (HA.out.rw (r1, (contM S other).1) (by simp)) (HA.out.rw (r2, (contM S other).1) (by simp))).mono ?_; rintro e w5 ⟨rfl, h5⟩; rw [decide_eq_true (show (contM S other).1 = (contM S other).1 from rfl)]; replace HA := Lib.hid (HA.out.next h5); clear h5)
            | (go_at_call 21; with_reducible refine (ten_any p S other _ (HA.out.sp (p, S) (by simp)) HW.out.1).mono ?_; rintro e w6 ⟨rfl, h6⟩; replace HA := Lib.hid (HA.out.next h6); clear h6)
            | (go_at_call 21; with_reducible refine (ten_any q (doM S ⟨od, oa, ob, oc⟩) other _ (HA.out.sp (q, doM S ⟨od, oa, ob, oc⟩) (by simp)) HW.out.2).mono ?_; rintro e w6 ⟨rfl, h6⟩; rw [HE.out.2.2]; replace HA := Lib.hid (HA.out.next h6); clear h6))
          go_ret
          exact ⟨rfl, HA.out.bl⟩
      · have hed : ((contM S other).2 != 0) = true := by simp [he]
        clear he
        go_wp2_with (first
          | (go_at_call 18; refine HCT.out.mono ?_; rintro e w2 ⟨r1, rfl, h2⟩; replace HA := Lib.hid (HA.out.next h2.out.1); clear h2)
          | (go_at_call 9; refine (sanity_any _).mono ?_; rintro e w10 ⟨rfl, h10⟩))
        go_ret
        exact ⟨rfl, (HA.out.next h10).bl⟩
set_option maxRecDepth 100000 in
theorem volumesSeparate_lifted (os : Os) (started : os.Started) (H : Type) (enc : TypeId × Value → H) :
    ReturnsInHanded {} Try.checked os 6 .any (Rows.volumesSeparateSpec.pre6 enc Try.prog Try.f6 Rows.volumesSeparateRow.domain false) (Rows.volumesSeparateSpec.post enc Try.prog Try.f6 false true false false) := by
  refine returnsInHanded_of_change (C := Try.checked) law_own started (by kernel_rfl) Try.func6
    (ChangeSpec.witness6 (enc := enc) (C := Try.checked) false ⟨#[], #[.slice none 0 0, .agg (vopA ⟨0, 0, 0, 0⟩).toArray, .int .i64 0], []⟩ 8 (by kernel_rfl) (by kernel_rfl) (by kernel_rfl) (by kernel_rfl)) ?_
  intro W base args ds gs before hval0 hW _ _
  have hval : ∀ (j : Nat) t v, Try.f6.params[j]? = some t → args[j]? = some v → Value.okWide Try.prog W .any base t v := hval0
  have hW' := hW
  obtain ⟨p, q, hA0, hV, rfl, _, _⟩ := hW
  have hA : DataW.TrodAll enc Try.prog W 0 (fun _ => true) true Try.f6.params.toList args.toList ds p := hA0
  rw [Try.params6] at hA hval
  obtain ⟨w0, vs0, d0, ds0, p0, q0, hargs, rfl, rfl, h0, r0⟩ := trodAll_cons hA
  obtain ⟨w1, vs1, d1, ds1, p1, q1, rfl, rfl, rfl, h1, r1⟩ := trodAll_cons r0
  obtain ⟨w2, vs2, d2, ds2, p2, q2, rfl, rfl, rfl, h2, r2⟩ := trodAll_cons r1
  obtain ⟨rfl, rfl, rfl⟩ := trodAll_nil r2
  obtain rfl : args = #[w0, w1, w2] := by cases args; simp_all
  obtain ⟨rfl, rfl⟩ := trodVars_none hV
  obtain ⟨v0, l0, e0, s0⟩ := rd_vscript (trod_rd h0)
  obtain ⟨x0, y0, z0, rfl⟩ := okWide_slice Try.underlying22 (hval 0 _ w0 rfl rfl)
  obtain rfl : .slice x0 y0 z0 = v0 := by simpa [Value.cells] using e0
  obtain ⟨cs1, rfl, _⟩ := okWide_struct Try.underlying30 (hval 1 _ w1 rfl rfl)
  obtain ⟨o1, e1⟩ := rd_vop (trod_rd h1)
  obtain rfl : cs1 = (vopA o1).toArray := by apply Array.ext'; simpa [Value.cells] using e1
  obtain ⟨b2, rfl, rfl, rfl, wf2⟩ := open_int Try.underlying3 (hval 2 3 w2 rfl rfl) h2
  refine (sep_law _ l0 o1 b2 W s0).mono fun e W' ⟨he, hg⟩ => ?_
  subst he
  exact ⟨_, rfl, law_post (by kernel_rfl) rfl (of_decide_eq_true (by kernel_rfl)) rfl hW' hg⟩

theorem volumesSeparate_holds : Rows.VolumesSeparateSaid :=
  OpenClaim.holds_of_wide 6 Try.f6 rfl rfl rfl rfl rfl rfl rfl ⟨rfl, rfl, rfl, rfl, rfl⟩ rfl rfl rfl rfl rfl (by kernel_rfl) Try.func6 (by kernel_rfl)
    (of_decide_eq_true (by kernel_rfl)) (by unfold Func.isWrapper; first | (rw [if_pos (by decide +kernel)]; kernel_rfl) | (rw [if_neg (by decide +kernel)]; exact ⟨rfl, rfl⟩))
    (fun os started H enc _ => volumesSeparate_lifted os started H enc)


end Go.Proofs.Ytednjhlkhecihaa
