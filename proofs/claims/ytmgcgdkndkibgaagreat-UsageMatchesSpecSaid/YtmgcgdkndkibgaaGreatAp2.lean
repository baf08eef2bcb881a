/- solventref28.Of: every tenant's use, appended. -/
import Derived.Test.YtmgcgdkndkibgaaGreatAn
namespace Go.Proofs.YtmgcgdkndkibgaaGreat
open Go.RowKit Go.Vol Go.Sl

structure RoSt (w : World) (A : Nat) (X : HProp) (S : SpaceM) (v i : Value) (wr : World) : Prop where
  st : ∃ k : Nat, k ≤ 16 ∧ i = .int .i64 (k : Int) ∧ Hid (Same w wr ∧ Sat wr (ownAt TUse 2 v k ((List.range k).flatMap fun t => useE (useOf S t)) * X))
set_option maxRecDepth 20000 in
set_option maxHeartbeats 4000000 in
theorem rof_any {ok : Nat → Prop} (vv vs : Value) (S : SpaceM) (w : World) (hS : RefAt ok w vv vs S) (hwf : S.WF) :
    Calls Tryz.prog 15 #[.agg #[vv, vs]] w fun e w' => ∃ v, e = .returned v ∧ Hid (Same w w' ∧ Sat w' (ownAt TUse 2 v 16 (useL (useOf S)) * old w)) := by
  have HO := Lib.hid (fun (W : World) (hb : Below w.heap.size w W) (z : Int) => one_any vv vs S z W ⟨hS.v.below hb, hS.s.below hb⟩ hwf)
  clear hS hwf
  go_enter Tryz.func15, Tryz.ntmps15
  go_wp2
  have H1 := Lib.hid (And.intro ((Same.refl w).alloc (.cells #[vv, vs] TRS)) ((Sat.old w).alloc (.cells #[vv, vs] TRS)))
  generalize w.alloc (.cells #[vv, vs] TRS) = w1 at H1 ⊢
  generalize w.heap.size = A at H1 ⊢
  go_loopw [3, 4] (fun v i wr => RoSt w A (pts A (.cells #[vv, vs] TRS (0, 0)) * old w) S v i wr) (fun _ i _ => 16 - (intOf i).toNat)
  case atStart => exact ⟨⟨0, Nat.zero_le _, rfl, ⟨H1.out.1, ownAt_nil.2 H1.out.2⟩⟩⟩
  case round =>
    obtain ⟨k, hk, rfl, HX⟩ := hrel.st
    clear hrel H1
    obtain ⟨ao, cap, rfl⟩ := ownAt_slice HX.out.2
    have hbA := HX.out.2.right.block
    have c0 : wr.cell? ⟨A, 0, none⟩ = some vv := cells_at hbA 0
    have c1 : wr.cell? ⟨A, 1, none⟩ = some vs := cells_at hbA 1
    clear hbA
    by_cases hlt : k < 16
    · have hltd : decide ((k : Int) < 16) = true := decide_eq_true (by omega)
      have hki : (k : Int) ≤ 16 := by omega
      have hwk : IntKind.i64.wrap ((k : Int) + 1) = (k : Int) + 1 := IntWalk.i64_in _ (by omega)
      have hb := HX.out.1.below_of HX.out.2.right
      have HC := Lib.hid (HO.out wr hb (k : Int))
      clear hb
      obtain ⟨ti, hti, hz0, hts, hz2⟩ := info_parts info_use
      go_wp2_with (first | (go_at_call 39; refine HC.out.mono ?_; rintro e w5 ⟨rfl, hb5⟩; have H5 := Lib.hid (And.intro (HX.out.1.below hb5) (HX.out.2.below hb5)); clear hb5) | (at_builtin; refine wpList_append_ownAt (F := pts A (.cells #[vv, vs] TRS (0, 0)) * old w) rfl _ _ 30 TUse rfl ti _ Tryz.underlying30 hti hz0 hts hz2 rfl (H5.out.2.allocKeep _) (useE (useOf S k)) rfl rfl rfl ?_ (by simp [Value.oneCell', useE]) (by unfold maxLen; omega) (by omega) ?_))
      · intro j u hu
        match j, hu with
        | 0, hu => rw [Addr.add_mid, cells_at (heap_alloc_new _ _)]; simpa [useE, useOf] using hu
        | 1, hu => rw [Addr.add_mid, cells_at (heap_alloc_new _ _)]; simpa [useE, useOf] using hu
      intro v' w6 h6
      have HY := Lib.hid (And.intro ((H5.out.1.alloc _).trans h6.out.1) h6.out.2)
      obtain ⟨ao', cap', rfl⟩ := ownAt_slice h6.out.2
      clear h6 c0 c1 HX H5 hti hz0 hts hz2
      go_wp2
      go_roundw
      case rel => exact ⟨⟨k + 1, hlt, rfl, HY.out.1, by rw [List.range_succ, List.flatMap_append]; simpa using HY.out.2⟩⟩
      case measure => simp only [intOf]; omega
    · obtain rfl : k = 16 := by omega
      have hltd : decide (((16 : Nat) : Int) < 16) = false := decide_eq_false (by omega)
      have hnlt : ¬ ((16 : Nat) : Int) < 16 := by omega
      have HF := Lib.hid (show Same w wr ∧ Sat wr (ownAt TUse 2 (.slice ao 16 cap) 16 (useL (useOf S)) * old w) from ⟨HX.out.1, Sat.right (P := pts A (.cells #[vv, vs] TRS (0, 0))) (HX.out.2.perm (show _ = pts A (.cells #[vv, vs] TRS (0, 0)) * (ownAt TUse 2 (.slice ao 16 cap) 16 (useL (useOf S)) * old w) from by unfold useL; ac_rfl))⟩)
      clear HX c0 c1
      go_wp2
      go_ret
      exact ⟨.slice ao 16 cap, rfl, HF⟩
end Go.Proofs.YtmgcgdkndkibgaaGreat
