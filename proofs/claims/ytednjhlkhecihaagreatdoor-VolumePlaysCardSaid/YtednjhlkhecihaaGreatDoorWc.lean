/- volume.Space: Content, Image. -/
import Derived.Test.YtednjhlkhecihaaGreatDoorWm
import Derived.Test.YtednjhlkhecihaaGreatDoorWq
namespace Go.Proofs.YtednjhlkhecihaaGreatDoor
open Go.RowKit Go.Vol Go.Sl

set_option maxRecDepth 20000 in
set_option maxHeartbeats 1000000 in
theorem contS_any (p : Nat) (S : SpaceM) (v : Int) (w : World) (hS : SpaceAt TNode TSp w p S) :
    Calls Tryz.prog 41 #[.pointer (some ⟨p, 0, none⟩), .int .i64 v] w fun e w' => ∃ r, e = .returned (.tuple #[r, .int .i64 (contM S v).2]) ∧ Hid (Below w.heap.size w w' ∧ RowsAt w' r (contM S v).1.length ((contM S v).1.flatMap refE)) := by
  obtain ⟨lv, ls, hlv, hls, ⟨vv, vs, hp, hrv, hrs⟩, hev, hes⟩ := hS
  obtain ⟨ao, cap, rfl, hvx⟩ := id hrv
  obtain ⟨so, scap, rfl, hsx⟩ := id hrs
  obtain ⟨c0, c1, hpl⟩ := sp_cells hp
  have hat := atvol_any (.slice ao lv.length cap) lv v w hrv
  rcases at_cases hlv v with ⟨hn, hi⟩ | ⟨x, hx, hsome, hi, hlt, hid, hae⟩
  · have HM := Lib.hid (show contM S v = ([], 12) by unfold contM volF; rw [← atN_find, hn])
    rw [hi] at hat
    have HA := Lib.hid hat
    clear hlv hls hp hrv hrs hev hes hn hi hat
    go_enter Tryz.func41, Tryz.ntmps41
    go_wp2_with (go_at_call 46; refine HA.out.mono ?_; rintro e w1 ⟨rfl, h2⟩)
    go_ret2
    refine ⟨_, by rw [HM.out]; rfl, h2, ?_⟩
    rw [HM.out]
    exact RowsAt.nil _
  · have HM := Lib.hid (show contM S v = (items x.1.m, 0) by unfold contM volF; rw [← atN_find, hsome])
    rw [hi] at hat
    have HA := Lib.hid hat
    obtain ⟨g, rfl, hgl, e0, e1, e2, e3⟩ := vol_cells hrv hx
    have hN := hev x (List.mem_of_getElem? hx)
    obtain ⟨q, hq⟩ := NodeAt.ptr hN
    rw [hq] at e2 hN
    have HK := Lib.hid (And.intro hN (And.intro e2 (And.intro e3 (And.intro c0 (And.intro hgl hpl)))))
    have HG := Lib.hid (fun (W : World) (hb : Below w.heap.size w W) => mappings_any (cnt x.1.m : Int) (.pointer q) x.1.m W (NodeAt.below hb HK.out.1))
    have hlen : lv.length ≤ 9223372036854775807 := by
      obtain ⟨_, _, e, h2, h3, _⟩ := hrv
      unfold maxLen at h3; simp only [Value.slice.injEq] at e; omega
    generalize atE lv v = i at *
    clear hlv hls hp hrv hrs hev hes hsome hi hat hN hq hid hae hx hvx hsx
    go_enter Tryz.func41, Tryz.ntmps41
    go_wp2_with (first
      | (go_at_call 46; refine HA.out.mono ?_; rintro e w1 ⟨rfl, h2⟩; clear e0 e1 e2 e3 c0 c1; have e2 := (h2.cell (p := ⟨g, i * 4 + 2, none⟩) HK.out.2.2.2.2.1).trans HK.out.2.1; have e3 := (h2.cell (p := ⟨g, i * 4 + 3, none⟩) HK.out.2.2.2.2.1).trans HK.out.2.2.1; have c0 := (h2.cell (p := ⟨p, 0, none⟩) HK.out.2.2.2.2.2).trans HK.out.2.2.2.1)
      | (go_at_call 78; refine (HG.out _ h2).mono ?_; rintro e w2 ⟨r, rfl, h3⟩))
    go_ret2
    refine ⟨_, by rw [HM.out]; rfl, h2.trans (h3.out.1.mono h2.size), ?_⟩
    rw [HM.out]
    exact h3.out.2

set_option maxRecDepth 20000 in
set_option maxHeartbeats 1000000 in
theorem imgS_any (p : Nat) (S : SpaceM) (v : Int) (w : World) (hS : SpaceAt TNode TSp w p S) :
    Calls Tryz.prog 44 #[.pointer (some ⟨p, 0, none⟩), .int .i64 v] w fun e w' => ∃ r, e = .returned (.tuple #[r, .int .i64 (imageM S v).2]) ∧ Hid (Below w.heap.size w w' ∧ RowsAt w' r (imageM S v).1.length ((imageM S v).1.flatMap refE)) := by
  obtain ⟨lv, ls, hlv, hls, ⟨vv, vs, hp, hrv, hrs⟩, hev, hes⟩ := hS
  obtain ⟨ao, cap, rfl, hvx⟩ := id hrv
  obtain ⟨so, scap, rfl, hsx⟩ := id hrs
  obtain ⟨c0, c1, hpl⟩ := sp_cells hp
  have hat := atsnap_any (.slice so ls.length scap) ls v w hrs
  rcases at_cases hls v with ⟨hn, hi⟩ | ⟨x, hx, hsome, hi, hlt, hid, hae⟩
  · have HM := Lib.hid (show imageM S v = ([], 12) by unfold imageM snapF; rw [← atN_find, hn])
    rw [hi] at hat
    have HA := Lib.hid hat
    clear hlv hls hp hrv hrs hev hes hn hi hat
    go_enter Tryz.func44, Tryz.ntmps44
    go_wp2_with (go_at_call 49; refine HA.out.mono ?_; rintro e w1 ⟨rfl, h2⟩)
    go_ret2
    refine ⟨_, by rw [HM.out]; rfl, h2, ?_⟩
    rw [HM.out]
    exact RowsAt.nil _
  · have HM := Lib.hid (show imageM S v = (items x.1.m, 0) by unfold imageM snapF; rw [← atN_find, hsome])
    rw [hi] at hat
    have HA := Lib.hid hat
    obtain ⟨g, rfl, hgl, e0, e1, e2, e3, e4⟩ := snap_cells hrs hx
    have hN := hes x (List.mem_of_getElem? hx)
    obtain ⟨q, hq⟩ := NodeAt.ptr hN
    rw [hq] at e2 hN
    have HK := Lib.hid (And.intro hN (And.intro e2 (And.intro e3 (And.intro c1 (And.intro hgl hpl)))))
    have HG := Lib.hid (fun (W : World) (hb : Below w.heap.size w W) => mappings_any (cnt x.1.m : Int) (.pointer q) x.1.m W (NodeAt.below hb HK.out.1))
    have hlen : ls.length ≤ 9223372036854775807 := by
      obtain ⟨_, _, e, h2, h3, _⟩ := hrs
      unfold maxLen at h3; simp only [Value.slice.injEq] at e; omega
    generalize atE ls v = i at *
    clear hlv hls hp hrv hrs hev hes hsome hi hat hN hq hid hae hx hvx hsx
    go_enter Tryz.func44, Tryz.ntmps44
    go_wp2_with (first
      | (go_at_call 49; refine HA.out.mono ?_; rintro e w1 ⟨rfl, h2⟩; clear e0 e1 e2 e3 e4 c0 c1; have e2 := (h2.cell (p := ⟨g, i * 5 + 2, none⟩) HK.out.2.2.2.2.1).trans HK.out.2.1; have e3 := (h2.cell (p := ⟨g, i * 5 + 3, none⟩) HK.out.2.2.2.2.1).trans HK.out.2.2.1; have c1 := (h2.cell (p := ⟨p, 1, none⟩) HK.out.2.2.2.2.2).trans HK.out.2.2.2.1)
      | (go_at_call 78; refine (HG.out _ h2).mono ?_; rintro e w2 ⟨r, rfl, h3⟩))
    go_ret2
    refine ⟨_, by rw [HM.out]; rfl, h2.trans (h3.out.1.mono h2.size), ?_⟩
    rw [HM.out]
    exact h3.out.2
end Go.Proofs.YtednjhlkhecihaaGreatDoor
