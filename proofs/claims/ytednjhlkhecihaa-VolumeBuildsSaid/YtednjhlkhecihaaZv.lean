/- VolumeLastWrite. -/
import Derived.Test.YtednjhlkhecihaaWs
import Derived.Test.YtednjhlkhecihaaWp
import Derived.Test.YtednjhlkhecihaaWo
namespace Go.Proofs.Ytednjhlkhecihaa
open Go.RowKit Go.Vol Go.Sl Go.ChangeMaps Go.ChangeShapes Go.WideShapes Go.ChangeAt

def runV (S : SpaceM) (l : List VOp) : SpaceM := l.foldl doM S
theorem runV_take {l : List VOp} {k : Nat} {o : VOp} (h : l[k]? = some o) (S : SpaceM) : runV S (l.take (k + 1)) = doM (runV S (l.take k)) o := by
  unfold runV
  rw [List.take_add_one, h, List.foldl_append]; rfl
theorem runV_wf {S : SpaceM} (h : S.WF) : ∀ l : List VOp, (runV S l).WF := by
  intro l
  induction l generalizing S with
  | nil => exact h
  | cons o r ih => exact ih (do_wf h)
/-- The loop over a script. -/
structure RunSt (w : World) (l : List VOp) (s i : Value) (wr : World) : Prop where
  st : ∃ k p : Nat, k ≤ l.length ∧ i = .int .i64 (k : Int) ∧ s = .pointer (some ⟨p, 0, none⟩) ∧ Hid (Below w.heap.size w wr ∧ SpaceAt TNode TSp wr p (runV SpaceM.new (l.take k)))

set_option maxRecDepth 20000 in
set_option maxHeartbeats 4000000 in
theorem last_law (sv : Value) (l : List VOp) (vol block chunk other : Int) (w : World) (hscr : ScrV w sv l) :
    Calls Try.prog 3 #[sv, .int .i64 vol, .int .i64 block, .int .i64 chunk, .int .i64 other] w fun e w' => e = .returned (.bool true) ∧ Below w.heap.size w w' := by
  obtain ⟨ao, cap, rfl, hm, hc⟩ := hscr
  have HC := Lib.hid hc
  have HM := Lib.hid hm
  clear hc hm
  by_cases h1 : 60 < l.length
  · have h1d : decide ((60 : Int) < (l.length : Int)) = true := decide_eq_true (by omega)
    clear h1
    go_enter Try.func3, Try.ntmps3
    go_wp2_with (go_at_call 9; refine (sanity_any _).mono ?_; rintro e w1 ⟨rfl, h2⟩)
    go_ret
    exact ⟨rfl, h2⟩
  have h1d : decide ((60 : Int) < (l.length : Int)) = false := decide_eq_false (by omega)
  have hlen : l.length ≤ 60 := by omega
  by_cases h2 : other = block
  · have h2d : (other == block) = true := by simp [h2]
    clear h1 h2
    go_enter Try.func3, Try.ntmps3
    go_wp2_with (go_at_call 9; refine (sanity_any _).mono ?_; rintro e w1 ⟨rfl, h2⟩)
    go_ret
    exact ⟨rfl, h2⟩
  have h2d : (other == block) = false := by simp [h2]
  have HO := Lib.hid h2
  have HN := Lib.hid (new_any w)
  clear h1 h2
  go_enter Try.func3, Try.ntmps3
  go_wp2_with (go_at_call 10; refine HN.out.mono ?_; rintro e w1 ⟨p0, rfl, h1⟩)
  go_loopw [11, 12] (fun s i wr => RunSt w l s i wr) (fun _ i _ => l.length - (intOf i).toNat)
  case atStart => exact ⟨0, p0, Nat.zero_le _, rfl, rfl, h1⟩
  case round =>
    clear h1 HN
    obtain ⟨k, p, hk, rfl, rfl, HS⟩ := hrel.st
    clear hrel
    by_cases hlt : k < l.length
    · have hltd : decide ((k : Int) < (l.length : Int)) = true := decide_eq_true (by omega)
      have hki : (k : Int) ≤ 60 := by omega
      obtain ⟨o, ho⟩ : ∃ o, l[k]? = some o := ⟨_, List.getElem?_eq_getElem hlt⟩
      obtain ⟨g, off, rfl, hcell⟩ := HC.out (by rintro rfl; simp at hlt)
      have hcw := fun i u hu => (HS.out.1.cell (World.block_lt_of_cell? _ _ (hcell k o ho i u hu))).trans (hcell k o ho i u hu)
      have c0 := hcw 0 _ rfl; have c1 := hcw 1 _ rfl; have c2 := hcw 2 _ rfl; have c3 := hcw 3 _ rfl
      rw [Nat.add_zero] at c0
      have HD := Lib.hid (And.intro (do_any p _ o wr HS.out.2 (runV_wf SpaceM.WF.new _)) (runV_take ho SpaceM.new))
      obtain ⟨od, oa, ob, oc⟩ := o
      clear hcell hcw ho
      go_wp2_with (go_at_call 11; refine HD.out.1.mono ?_; rintro e w2 ⟨p', rfl, h2⟩)
      refine ⟨⟨k + 1, p', by omega, rfl, rfl, ⟨HS.out.1.trans (h2.out.1.mono HS.out.1.size), by rw [HD.out.2]; exact h2.out.2⟩⟩, ?_⟩
      simp only [intOf]; omega
    · obtain rfl : k = l.length := by omega
      have hltd : decide ((l.length : Int) < (l.length : Int)) = false := decide_eq_false (by omega)
      rw [List.take_length] at HS
      have hwf := runV_wf SpaceM.WF.new l
      generalize runV SpaceM.new l = S at HS hwf
      have HW := Lib.hid hwf
      clear hwf HC
      rcases (show (S.map vol block chunk).Link from change_link _ _ _ _) with ⟨he, M, hM⟩ | ⟨he, hM⟩
      · obtain ⟨T, hT⟩ := map_unmap hM
        have hue : (S.unmap vol block).e = 0 := by
          rcases (show (S.unmap vol block).Link from change_link _ _ _ _) with ⟨h, _⟩ | ⟨_, h⟩
          · exact h
          · rw [hT] at h; cases h
        obtain ⟨f1, f2, f3, f4⟩ := last_write hM hT HO.out
        obtain ⟨x, i, hxi⟩ : ∃ x i, S.get vol other = (x, i) := ⟨_, _, rfl⟩
        rw [hxi] at f3 f4
        have HE := Lib.hid (And.intro he (And.intro hM (And.intro hue hT)))
        have HF := Lib.hid (And.intro f1 (And.intro f2 (And.intro hxi (And.intro f3 f4))))
        have HMp := Lib.hid (mapS_any p S vol block chunk wr HS.out.2 HW.out)
        have HUn := Lib.hid (fun W h => unmapS_any p S vol block W h HW.out)
        clear he hM hT hue f1 f2 f3 f4 hxi HO
        go_upto_region 10 with (first
          | (go_at_call 12; refine HMp.out.mono ?_; rintro e w2 h; obtain ⟨pm, rfl, h2⟩ := Res2.ok h HE.out.1 HE.out.2.1; clear h)
          | (go_at_call 13; refine (HUn.out w2 (HS.out.2.below h2.out.1)).mono ?_; rintro e w3 h; obtain ⟨pu, rfl, h3⟩ := Res2.ok h HE.out.2.2.1 HE.out.2.2.2; clear h))
        have HA := Lib.hid (And.intro ((HS.out.1.trans (h2.out.1.mono HS.out.1.size)).trans (h3.out.1.mono (HS.out.1.trans (h2.out.1.mono HS.out.1.size)).size)) (And.intro ((HS.out.2.below h2.out.1).below h3.out.1) (And.intro (h2.out.2.below h3.out.1) h3.out.2)))
        clear h2 h3 HMp HUn HS
        go_upto_region 13 with (go_at_call 14; refine (getV HA.out.2.2.1 HF.out.1).mono ?_; rintro e w9 ⟨rfl, h9⟩; replace HA := Lib.hid (And.intro (HA.out.1.trans (h9.out.1.mono HA.out.1.size)) (And.intro (HA.out.2.1.below h9.out.1) (And.intro (HA.out.2.2.1.below h9.out.1) (HA.out.2.2.2.below h9.out.1)))); clear h9)
        go_upto_region 14 with (go_at_call 14; refine (getV HA.out.2.2.2 HF.out.2.1).mono ?_; rintro e w9 ⟨rfl, h9⟩; replace HA := Lib.hid (And.intro (HA.out.1.trans (h9.out.1.mono HA.out.1.size)) (And.intro (HA.out.2.1.below h9.out.1) (And.intro (HA.out.2.2.1.below h9.out.1) (HA.out.2.2.2.below h9.out.1)))); clear h9)
        go_upto_region 15 with (go_at_call 14; refine (getV HA.out.2.1 HF.out.2.2.1).mono ?_; rintro e w9 ⟨rfl, h9⟩; replace HA := Lib.hid (And.intro (HA.out.1.trans (h9.out.1.mono HA.out.1.size)) (And.intro (HA.out.2.1.below h9.out.1) (And.intro (HA.out.2.2.1.below h9.out.1) (HA.out.2.2.2.below h9.out.1)))); clear h9)
        go_upto_region 16 with (go_at_call 14; refine (getV HA.out.2.2.1 HF.out.2.2.2.1).mono ?_; rintro e w9 ⟨rfl, h9⟩; replace HA := Lib.hid (And.intro (HA.out.1.trans (h9.out.1.mono HA.out.1.size)) (And.intro (HA.out.2.1.below h9.out.1) (And.intro (HA.out.2.2.1.below h9.out.1) (HA.out.2.2.2.below h9.out.1)))); clear h9)
        go_upto_region 17 with (go_at_call 14; refine (getV HA.out.2.2.2 HF.out.2.2.2.2).mono ?_; rintro e w9 ⟨rfl, h9⟩; replace HA := Lib.hid (And.intro (HA.out.1.trans (h9.out.1.mono HA.out.1.size)) (And.intro (HA.out.2.1.below h9.out.1) (And.intro (HA.out.2.2.1.below h9.out.1) (HA.out.2.2.2.below h9.out.1)))); clear h9)
        go_wp2_with (go_at_call 9; refine (sanity_any _).mono ?_; rintro e w10 ⟨rfl, h10⟩)
        go_ret
        exact ⟨rfl, HA.out.1.trans (h10.mono HA.out.1.size)⟩
      · have hne : ((S.map vol block chunk).e != 0) = true := by simpa using he
        have HMp := Lib.hid (mapS_any p S vol block chunk wr HS.out.2 HW.out)
        have HUn := Lib.hid (fun W h => unmapS_any p S vol block W h HW.out)
        generalize hE : (S.map vol block chunk).e = E at hne
        have HE := Lib.hid (And.intro hM hE)
        have hlk : (S.unmap vol block).Link := change_link _ _ _ _
        clear he hM hE HO
        rcases hlk with ⟨ue, T, hT⟩ | ⟨ue, hT⟩
        · have HU := Lib.hid (And.intro ue hT)
          clear ue hT
          go_wp2_with (first
            | (go_at_call 12; refine HMp.out.mono ?_; rintro e w2 h; obtain ⟨rfl, h2⟩ := Res2.no h HE.out.1; clear h; rw [HE.out.2])
            | (go_at_call 13; refine (HUn.out w2 (HS.out.2.below h2.out)).mono ?_; rintro e w3 h; obtain ⟨pu, rfl, h3⟩ := Res2.ok h HU.out.1 HU.out.2; clear h; replace HS := Lib.hid ((HS.out.1.trans (h2.out.mono HS.out.1.size)).trans (h3.out.1.mono (HS.out.1.trans (h2.out.mono HS.out.1.size)).size)))
            | (go_at_call 9; refine (sanity_any _).mono ?_; rintro e w10 ⟨rfl, h10⟩))
          go_ret
          exact ⟨rfl, HS.out.trans (h10.mono HS.out.size)⟩
        · have hune : ((S.unmap vol block).e != 0) = true := by simpa using ue
          generalize hUE : (S.unmap vol block).e = UE at hune
          have HU := Lib.hid (And.intro hUE hT)
          clear ue hT hUE
          go_wp2_with (first
            | (go_at_call 12; refine HMp.out.mono ?_; rintro e w2 h; obtain ⟨rfl, h2⟩ := Res2.no h HE.out.1; clear h; rw [HE.out.2])
            | (go_at_call 13; refine (HUn.out w2 (HS.out.2.below h2.out)).mono ?_; rintro e w3 h; obtain ⟨rfl, h3⟩ := Res2.no h HU.out.2; clear h; rw [HU.out.1]; replace HS := Lib.hid ((HS.out.1.trans (h2.out.mono HS.out.1.size)).trans (h3.out.mono (HS.out.1.trans (h2.out.mono HS.out.1.size)).size)))
            | (go_at_call 9; refine (sanity_any _).mono ?_; rintro e w10 ⟨rfl, h10⟩))
          go_ret
          exact ⟨rfl, HS.out.trans (h10.mono HS.out.size)⟩
set_option maxRecDepth 100000 in
theorem volumeLastWrite_lifted (os : Os) (started : os.Started) (H : Type) (enc : TypeId × Value → H) :
    ReturnsInHanded {} Try.checked os 3 .any (Rows.volumeLastWriteSpec.pre6 enc Try.prog Try.f3 Rows.volumeLastWriteRow.domain false) (Rows.volumeLastWriteSpec.post enc Try.prog Try.f3 false true false false) := by
  refine returnsInHanded_of_change (C := Try.checked) law_own started (by kernel_rfl) Try.func3
    (ChangeSpec.witness6 (enc := enc) (C := Try.checked) false ⟨#[], #[.slice none 0 0, .int .i64 0, .int .i64 0, .int .i64 0, .int .i64 0], []⟩ 8 (by kernel_rfl) (by kernel_rfl) (by kernel_rfl) (by kernel_rfl)) ?_
  intro W base args ds gs before hval0 hW _ _
  have hval : ∀ (j : Nat) t v, Try.f3.params[j]? = some t → args[j]? = some v → Value.okWide Try.prog W .any base t v := hval0
  have hW' := hW
  obtain ⟨p, q, hA0, hV, rfl, _, _⟩ := hW
  have hA : DataW.TrodAll enc Try.prog W 0 (fun _ => true) true Try.f3.params.toList args.toList ds p := hA0
  rw [Try.params3] at hA hval
  obtain ⟨w0, vs0, d0, ds0, p0, q0, hargs, rfl, rfl, h0, r0⟩ := trodAll_cons hA
  obtain ⟨w1, vs1, d1, ds1, p1, q1, rfl, rfl, rfl, h1, r1⟩ := trodAll_cons r0
  obtain ⟨w2, vs2, d2, ds2, p2, q2, rfl, rfl, rfl, h2, r2⟩ := trodAll_cons r1
  obtain ⟨w3, vs3, d3, ds3, p3, q3, rfl, rfl, rfl, h3, r3⟩ := trodAll_cons r2
  obtain ⟨w4, vs4, d4, ds4, p4, q4, rfl, rfl, rfl, h4, r4⟩ := trodAll_cons r3
  obtain ⟨rfl, rfl, rfl⟩ := trodAll_nil r4
  obtain rfl : args = #[w0, w1, w2, w3, w4] := by cases args; simp_all
  obtain ⟨rfl, rfl⟩ := trodVars_none hV
  obtain ⟨v0, l0, e0, s0⟩ := rd_vscript (trod_rd h0)
  obtain ⟨x0, y0, z0, rfl⟩ := okWide_slice Try.underlying22 (hval 0 _ w0 rfl rfl)
  obtain rfl : .slice x0 y0 z0 = v0 := by simpa [Value.cells] using e0
  obtain ⟨b1, rfl, rfl, rfl, wf1⟩ := open_int Try.underlying3 (hval 1 3 w1 rfl rfl) h1
  obtain ⟨b2, rfl, rfl, rfl, wf2⟩ := open_int Try.underlying3 (hval 2 3 w2 rfl rfl) h2
  obtain ⟨b3, rfl, rfl, rfl, wf3⟩ := open_int Try.underlying3 (hval 3 3 w3 rfl rfl) h3
  obtain ⟨b4, rfl, rfl, rfl, wf4⟩ := open_int Try.underlying3 (hval 4 3 w4 rfl rfl) h4
  refine (last_law _ l0 b1 b2 b3 b4 W s0).mono fun e W' ⟨he, hg⟩ => ?_
  subst he
  exact ⟨_, rfl, law_post (by kernel_rfl) rfl (of_decide_eq_true (by kernel_rfl)) rfl hW' hg⟩

theorem volumeLastWrite_holds : Rows.VolumeLastWriteSaid :=
  OpenClaim.holds_of_wide 3 Try.f3 rfl rfl rfl rfl rfl rfl rfl ⟨rfl, rfl, rfl, rfl, rfl⟩ rfl rfl rfl rfl rfl (by kernel_rfl) Try.func3 (by kernel_rfl)
    (of_decide_eq_true (by kernel_rfl)) (by unfold Func.isWrapper; first | (rw [if_pos (by decide +kernel)]; kernel_rfl) | (rw [if_neg (by decide +kernel)]; exact ⟨rfl, rfl⟩))
    (fun os started H enc _ => volumeLastWrite_lifted os started H enc)

end Go.Proofs.Ytednjhlkhecihaa
