/- DiskSizes: for every integer, the new disk has as many sectors as specified. No condition. -/
import Derived.Test.YtdeblpnkpefbcaaLs
import Derived.Test.YtdeblpnkpefbcaaZl
namespace Go.Proofs.Ytdeblpnkpefbcaa
open Go.RowKit Go.Sl Go.ChangeMaps Go.ChangeShapes Go.WideShapes Go.ChangeAt

theorem sizes_n (n : Int) : ((DiskM.new n).n : Int) = max 0 (min n 65536) := by simp only [DiskM.new]; omega

set_option maxHeartbeats 1000000 in
theorem sizes_any (n : Int) (w : World) :
    Calls Try.prog 4 #[.int .i64 n] w fun e w' => e = .returned (.bool true) ∧ Below w.heap.size w w' := by
  have HO := Lib.hid (Sat.old w)
  have hmn : (if (65536 : Int) < n then 65536 else n) = min n 65536 := by split <;> omega
  obtain ⟨m, hm⟩ : ∃ m, m = (DiskM.new n).n := ⟨_, rfl⟩
  have hmi : (m : Int) = max 0 (min n 65536) := by rw [hm]; exact sizes_n n
  have HM := Lib.hid hm
  have HMI := Lib.hid hmi
  clear hm hmi
  go_enter Try.func4, Try.ntmps4
  go_upto_region 2 with (go_at_call 12; refine (new_any n (old w) w HO.out).mono ?_; rintro e w1 ⟨p, rfl, H1⟩; replace H1 := Lib.hid H1)
  go_upto_region 3 with (fail)
  rw [← HMI.out]
  replace H1 := Lib.hid (show Same w w1 ∧ Sat w1 (diskAt TD TS p (DiskM.new n) * old w) from H1.out)
  have hlen := len_all p _ _ w1 H1.out.2
  rw [← HM.out] at hlen
  have HL := Lib.hid hlen
  clear hlen
  go_upto_region 5 with (go_at_call 17; refine HL.out.mono ?_; rintro e w' ⟨rfl, hw⟩; subst hw)
  have hr1 : (DiskM.new n).read (m : Int) = ([], 1) := by
    unfold DiskM.read; rw [if_neg]; rw [HM.out, DiskM.has_iff]; omega
  have HR1 := Lib.hid hr1
  clear hr1
  go_upto_region 6 with (go_at_call 18; refine (step_read (m : Int) H1.out.2 HR1.out).mono ?_; rintro e w' ⟨rfl, hb⟩; replace H1 := Lib.hid (And.intro (H1.out.1.below hb.out) (H1.out.2.below hb.out)); clear hb)
  by_cases h0 : m = 0
  · subst h0
    have hr2 : (DiskM.new n).read (-1) = ([], 1) := by
      unfold DiskM.read; rw [if_neg]; rw [DiskM.has_iff]; omega
    have HR2 := Lib.hid hr2
    clear hr2
    go_upto_region 7 with (go_at_call 18; refine (step_read (-1) H1.out.2 HR2.out).mono ?_; rintro e w' ⟨rfl, hb⟩; replace H1 := Lib.hid (And.intro (H1.out.1.below hb.out) (H1.out.2.below hb.out)); clear hb)
    go_wp2_with (first
      | (go_at_call 11; refine (sanity_any _).mono ?_; rintro e w' ⟨rfl, hb⟩; replace H1 := Lib.hid (And.intro (H1.out.1.below hb) (H1.out.2.below hb)); clear hb)
      | (go_at_call 19; refine (rep_str _ _).mono ?_; rintro e w' ⟨rfl, hb⟩; replace H1 := Lib.hid (And.intro (H1.out.1.below hb) (H1.out.2.below hb)); clear hb))
    go_ret
    exact ⟨rfl, H1.out.1.below_of (H1.out.2.perm (show _ = diskAt TD TS p (DiskM.new n) * old w from by ac_rfl))⟩
  · have hm1 : (0 : Int) < (m : Int) := by omega
    have hm2 : (m : Int) ≤ 65536 := by have := HMI.out; omega
    have hm0 : ((m : Int) == 0) = false := by simp; omega
    have hr2 : (DiskM.new n).read ((m : Int) - 1) = (repA 0, 0) := by
      unfold DiskM.read; rw [if_pos]
      · rfl
      · rw [DiskM.has_iff, ← HM.out]; omega
    have HR2 := Lib.hid hr2
    clear hr2
    go_upto_region 7 with (go_at_call 18; refine (step_read ((m : Int) - 1) H1.out.2 HR2.out).mono ?_; rintro e w' ⟨rfl, hb⟩; replace H1 := Lib.hid (And.intro (H1.out.1.below hb.out) (H1.out.2.below hb.out)); clear hb)
    generalize hZ : strV (repA 0) = z
    have HZ := Lib.hid hZ
    clear hZ
    go_wp2_with (first
      | (go_at_call 11; refine (sanity_any _).mono ?_; rintro e w' ⟨rfl, hb⟩; replace H1 := Lib.hid (And.intro (H1.out.1.below hb) (H1.out.2.below hb)); clear hb)
      | (go_at_call 19; refine (rep_str _ _).mono ?_; rintro e w' ⟨rfl, hb⟩; rw [HZ.out]; replace H1 := Lib.hid (And.intro (H1.out.1.below hb) (H1.out.2.below hb)); clear hb))
    go_ret
    exact ⟨rfl, H1.out.1.below_of (H1.out.2.perm (show _ = diskAt TD TS p (DiskM.new n) * old w from by ac_rfl))⟩

set_option maxRecDepth 100000 in
theorem sizes_lifted (os : Os) (started : os.Started) (H : Type) (enc : TypeId × Value → H) :
    ReturnsInHanded {} Try.checked os 4 .any (Rows.diskSizesSpec.pre6 enc Try.prog Try.f4 Rows.diskSizesRow.domain false) (Rows.diskSizesSpec.post enc Try.prog Try.f4 false true false false) := by
  refine returnsInHanded_of_change (C := Try.checked) law_own started (by kernel_rfl) Try.func4
    (ChangeSpec.witness6 (enc := enc) (C := Try.checked) false ⟨#[], #[.int .i64 0], []⟩ 8 (by kernel_rfl) (by kernel_rfl) (by kernel_rfl) (by kernel_rfl)) ?_
  intro W base args ds gs before hval0 hW _ _
  have hval : ∀ (j : Nat) t v, Try.f4.params[j]? = some t → args[j]? = some v → Value.okWide Try.prog W .any base t v := hval0
  have hW' := hW
  obtain ⟨p, q, hA0, hV, rfl, _, _⟩ := hW
  have hA : DataW.TrodAll enc Try.prog W 0 (fun _ => true) true Try.f4.params.toList args.toList ds p := hA0
  rw [Try.params4] at hA hval
  obtain ⟨v0, vs0, d0, ds0, p0, q0, hargs, rfl, rfl, h0, r0⟩ := trodAll_cons hA
  obtain ⟨rfl, rfl, rfl⟩ := trodAll_nil r0
  obtain rfl : args = #[v0] := by cases args; simp_all
  obtain ⟨rfl, rfl⟩ := trodVars_none hV
  obtain ⟨a0, rfl, rfl, rfl, w0⟩ := open_int Try.underlying3 (hval 0 3 v0 rfl rfl) h0
  refine (sizes_any a0 W).mono fun e W' ⟨he, hg⟩ => ?_
  subst he
  exact ⟨_, rfl, law_post (by kernel_rfl) rfl (of_decide_eq_true (by kernel_rfl)) rfl hW' hg⟩

theorem diskSizes_holds : Rows.DiskSizesSaid :=
  OpenClaim.holds_of_wide 4 Try.f4 rfl rfl rfl rfl rfl rfl rfl ⟨rfl, rfl, rfl, rfl, rfl⟩ rfl rfl rfl rfl rfl (by kernel_rfl) Try.func4 (by kernel_rfl)
    (of_decide_eq_true (by kernel_rfl)) (by unfold Func.isWrapper; first | (rw [if_pos (by decide +kernel)]; kernel_rfl) | (rw [if_neg (by decide +kernel)]; exact ⟨rfl, rfl⟩))
    (fun os started H enc _ => sizes_lifted os started H enc)

end Go.Proofs.Ytdeblpnkpefbcaa
