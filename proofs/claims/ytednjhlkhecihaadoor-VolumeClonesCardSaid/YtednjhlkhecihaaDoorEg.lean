/- volume.Space.Diff. -/
import Derived.Test.YtednjhlkhecihaaDoorEf
import Derived.Test.YtednjhlkhecihaaDoorRc
namespace Go.Proofs.YtednjhlkhecihaaDoor
open Go.RowKit Go.Vol Go.Sl

theorem snap_at {lS : List ElM} {S : SpaceM} (hls : lS.map Prod.fst = S.snaps) (v : Int) : (snapF S v = none ∧ atI lS v = -1) ∨ ∃ x : ElM, lS[atE lS v]? = some x ∧ snapF S v = some x.1 ∧ atI lS v = (atE lS v : Int) ∧ atE lS v < lS.length := by
  rcases at_cases hls v with ⟨hn, hi⟩ | ⟨x, hx, hsome, hi, hlt, hid, hae⟩
  · exact .inl ⟨by unfold snapF; rw [← atN_find, hn], hi⟩
  · exact .inr ⟨x, hx, by unfold snapF; rw [← atN_find, hsome], hi, hlt⟩

set_option maxRecDepth 20000 in
set_option maxHeartbeats 2000000 in
theorem diffS_any (p : Nat) (S : SpaceM) (a b : Int) (w : World) (hS : SpaceAt TNode TSp w p S) (hT : TabW w) :
    Calls Tryd.prog 11 #[.pointer (some ⟨p, 0, none⟩), .int .i64 a, .int .i64 b] w fun e w' => ∃ r, e = .returned (.tuple #[r, .int .i64 (diffMM S a b).2]) ∧ Hid (Below w.heap.size w w' ∧ RowsAt w' r (diffMM S a b).1.length ((diffMM S a b).1.flatMap cellD)) := by
  have hw0 : 0 < w.heap.size := by
    have := hT 0 (by decide)
    unfold World.cell? at this
    rcases Nat.eq_zero_or_pos w.heap.size with h | h
    · rw [Array.getElem?_eq_none (by simp only; omega)] at this; cases this
    · exact h
  obtain ⟨lv, ls, hlv, hls, ⟨vv, vs, hp, hrv, hrs⟩, hev, hes⟩ := hS
  obtain ⟨so, scap, rfl, hsx⟩ := id hrs
  obtain ⟨-, c1, hpl⟩ := sp_cells hp
  have HAT := Lib.hid (fun (W : World) (v : Int) (h : Below w.heap.size w W) => atsnap_any (.slice so ls.length scap) ls v W (hrs.below h))
  have hcell : ∀ W, Below w.heap.size w W → W.cell? ⟨p, 1, none⟩ = some (.slice so ls.length scap) := fun W h => (h.cell (p := ⟨p, 1, none⟩) hpl).trans c1
  have HCE := Lib.hid hcell
  have h0 : Below w.heap.size w w.drew := ⟨rfl, rfl, rfl, Nat.le_refl _, fun _ _ => rfl⟩
  have HX := Lib.hid (And.intro hw0 (And.intro hT (And.intro hrs (And.intro hes (And.intro hls hsx)))))
  clear hcell hlv hls hp hrv hrs hev hes hsx hT c1 hw0
  go_enter Tryd.func11, Tryd.ntmps11
  go_upto_region 1 with (fail)
  refine reg_begin (fun w' => Below w.heap.size w w') (by kernel_rfl) ?_
  (apply reg_take 0 rfl rfl (by decide +kernel) rfl); (intro w' h; have c1 := HCE.out w' h; go_simp; rfl); exact h0; simp only [List.setIfInBounds_toArray, List.set_cons_succ, List.set_cons_zero]
  (apply reg_take 1 rfl rfl (by decide +kernel) rfl); (intro w' h; have c1 := HCE.out w' h; go_simp; rfl); exact h0; simp only [List.setIfInBounds_toArray, List.set_cons_succ, List.set_cons_zero]
  (apply reg_take 2 rfl rfl (by decide +kernel) rfl); (intro w' h; have c1 := HCE.out w' h; go_simp; rfl); exact h0; simp only [List.setIfInBounds_toArray, List.set_cons_succ, List.set_cons_zero]
  (apply reg_take 3 rfl rfl (by decide +kernel) rfl); (intro w' h; have c1 := HCE.out w' h; go_simp; rfl); exact h0; simp only [List.setIfInBounds_toArray, List.set_cons_succ, List.set_cons_zero]
  (apply reg_take 4 rfl rfl (by decide +kernel) rfl); (intro w' h; have c1 := HCE.out w' h; go_simp; rfl); exact h0; simp only [List.setIfInBounds_toArray, List.set_cons_succ, List.set_cons_zero]
  (apply reg_take 6 rfl rfl (by decide +kernel) rfl); (intro w' h; have c1 := HCE.out w' h; go_simp; rfl); exact h0; simp only [List.setIfInBounds_toArray, List.set_cons_succ, List.set_cons_zero]
  (apply reg_take 7 rfl rfl (by decide +kernel) rfl); (intro w' h; have c1 := HCE.out w' h; go_simp; rfl); exact h0; simp only [List.setIfInBounds_toArray, List.set_cons_succ, List.set_cons_zero]
  (apply reg_take 8 rfl rfl (by decide +kernel) rfl); (intro w' h; have c1 := HCE.out w' h; go_simp; rfl); exact h0; simp only [List.setIfInBounds_toArray, List.set_cons_succ, List.set_cons_zero]
  (apply reg_take 9 rfl rfl (by decide +kernel) rfl); (intro w' h; have c1 := HCE.out w' h; go_simp; rfl); exact h0; simp only [List.setIfInBounds_toArray, List.set_cons_succ, List.set_cons_zero]
  (apply reg_take 10 rfl rfl (by decide +kernel) rfl); (intro w' h; have c1 := HCE.out w' h; go_simp; rfl); exact h0; simp only [List.setIfInBounds_toArray, List.set_cons_succ, List.set_cons_zero]
  refine reg_call 5 rfl rfl (by decide +kernel) rfl (f := 25) (args := #[.slice so ls.length scap, .int .i64 a]) (R := fun v w' => v = .int .i64 (atI ls a) ∧ Below w.heap.size w w') (by kernel_rfl) ((HAT.out w.drew a h0).mono fun e w' h => ⟨_, h.1, rfl, h0.trans (h.2.mono h0.size)⟩) ?_
  rintro _ W2 ⟨rfl, h2⟩
  refine ⟨h2, ?_⟩
  simp only [List.setIfInBounds_toArray, List.set_cons_succ, List.set_cons_zero]
  refine reg_call 11 rfl rfl (by decide +kernel) rfl (f := 25) (args := #[.slice so ls.length scap, .int .i64 b]) (R := fun v w' => v = .int .i64 (atI ls b) ∧ Below w.heap.size w w') (by kernel_rfl) ((HAT.out W2 b h2).mono fun e w' h => ⟨_, h.1, rfl, h2.trans (h.2.mono h2.size)⟩) ?_
  rintro _ W3 ⟨rfl, h3⟩
  refine ⟨h3, ?_⟩
  simp only [List.setIfInBounds_toArray, List.set_cons_succ, List.set_cons_zero]
  (apply reg_take 12 rfl rfl (by decide +kernel) rfl); (intro w' h; go_simp; rfl); exact h3; simp only [List.setIfInBounds_toArray, List.set_cons_succ, List.set_cons_zero]
  (apply reg_take 13 rfl rfl (by decide +kernel) rfl); (intro w' h; go_simp; rfl); exact h3; simp only [List.setIfInBounds_toArray, List.set_cons_succ, List.set_cons_zero]
  refine reg_done (by decide +kernel) ?_
  clear h0 h2
  have H3 := Lib.hid h3
  clear h3
  obtain ⟨hw0, hT, hrs, hes, hls, hsx⟩ := HX.out
  rcases snap_at hls a with ⟨hna, hia⟩ | ⟨x, hx, hsa, hia, hla⟩
  · have HM := Lib.hid (show diffMM S a b = ([], 12) by unfold diffMM; rw [hna])
    rw [hia]
    clear hrs hes hls hsx HX hna hia HAT HCE hT hw0
    go_wp2
    go_ret2
    exact ⟨_, by rw [HM.out]; rfl, H3.out, by rw [HM.out]; exact RowsAt.nil _⟩
  · rcases snap_at hls b with ⟨hnb, hib⟩ | ⟨y, hy, hsb, hib, hlb⟩
    · have HM := Lib.hid (show diffMM S a b = ([], 12) by unfold diffMM; rw [hsa, hnb])
      rw [hia, hib]
      generalize atE ls a = ia at *
      clear hrs hes hls hsx HX hnb hia hib HAT HCE hT hw0 hx hsa
      go_wp2
      go_ret2
      exact ⟨_, by rw [HM.out]; rfl, H3.out, by rw [HM.out]; exact RowsAt.nil _⟩
    · have HM := Lib.hid (show diffMM S a b = (items (dm x.1.m y.1.m), 0) by unfold diffMM; rw [hsa, hsb])
      rw [hia, hib]
      obtain ⟨g, rfl, hgl, -, -, a2, a3, -⟩ := snap_cells hrs hx
      obtain ⟨g', hg', -, -, -, b2, b3, -⟩ := snap_cells hrs hy
      obtain rfl : g = g' := by simpa using hg'
      have hNa := hes x (List.mem_of_getElem? hx)
      have hNb := hes y (List.mem_of_getElem? hy)
      obtain ⟨qa, hqa⟩ := NodeAt.ptr hNa
      obtain ⟨qb, hqb⟩ := NodeAt.ptr hNb
      rw [hqa] at a2 hNa
      rw [hqb] at b2 hNb
      generalize atE ls a = ia at *
      generalize atE ls b = ib at *
      have hd0 : Below w.heap.size w W3.drew := H3.out.trans ⟨rfl, rfl, rfl, Nat.le_refl _, fun _ _ => rfl⟩
      have hlen : ls.length ≤ 9223372036854775807 := by
        obtain ⟨_, _, e, h2, h3, _⟩ := hrs
        unfold maxLen at h3; simp only [Value.slice.injEq] at e; omega
      have HD := Lib.hid (fun (W : World) (h : Below w.heap.size w W) => diff_any (cnt x.1.m : Int) (cnt y.1.m : Int) (.pointer qa) (.pointer qb) x.1.m y.1.m W (NodeAt.below h hNa) (NodeAt.below h hNb) (hT.keep (h.block 0 hw0)))
      have HK := Lib.hid (fun (W : World) (h : Below w.heap.size w W) => And.intro ((h.cell (p := ⟨g, ia * 5 + 2, none⟩) hgl).trans a2) (And.intro ((h.cell (p := ⟨g, ia * 5 + 3, none⟩) hgl).trans a3) (And.intro ((h.cell (p := ⟨g, ib * 5 + 2, none⟩) hgl).trans b2) ((h.cell (p := ⟨g, ib * 5 + 3, none⟩) hgl).trans b3))))
      clear hrs hes hls hsx HX hia hib HAT hT hw0 hx hsa hy hsb a2 a3 b2 b3 hNa hNb hqa hqb hg'
      go_upto_region 4 with (fail)
      refine reg_begin (fun w' => Below w.heap.size w w') (by kernel_rfl) ?_
      (apply reg_take 0 rfl rfl (by decide +kernel) rfl); (intro w' h; have c1 := HCE.out w' h; obtain ⟨k1, k2, k3, k4⟩ := HK.out w' h; go_simp; rfl); exact hd0; simp only [List.setIfInBounds_toArray, List.set_cons_succ, List.set_cons_zero]
      (apply reg_take 1 rfl rfl (by decide +kernel) rfl); (intro w' h; have c1 := HCE.out w' h; obtain ⟨k1, k2, k3, k4⟩ := HK.out w' h; go_simp; rfl); exact hd0; simp only [List.setIfInBounds_toArray, List.set_cons_succ, List.set_cons_zero]
      (apply reg_take 2 rfl rfl (by decide +kernel) rfl); (intro w' h; have c1 := HCE.out w' h; obtain ⟨k1, k2, k3, k4⟩ := HK.out w' h; go_simp; rfl); exact hd0; simp only [List.setIfInBounds_toArray, List.set_cons_succ, List.set_cons_zero]
      (apply reg_take 3 rfl rfl (by decide +kernel) rfl); (intro w' h; have c1 := HCE.out w' h; obtain ⟨k1, k2, k3, k4⟩ := HK.out w' h; go_simp; rfl); exact hd0; simp only [List.setIfInBounds_toArray, List.set_cons_succ, List.set_cons_zero]
      (apply reg_take 4 rfl rfl (by decide +kernel) rfl); (intro w' h; have c1 := HCE.out w' h; obtain ⟨k1, k2, k3, k4⟩ := HK.out w' h; go_simp; rfl); exact hd0; simp only [List.setIfInBounds_toArray, List.set_cons_succ, List.set_cons_zero]
      (apply reg_take 5 rfl rfl (by decide +kernel) rfl); (intro w' h; have c1 := HCE.out w' h; obtain ⟨k1, k2, k3, k4⟩ := HK.out w' h; go_simp; rfl); exact hd0; simp only [List.setIfInBounds_toArray, List.set_cons_succ, List.set_cons_zero]
      (apply reg_take 6 rfl rfl (by decide +kernel) rfl); (intro w' h; have c1 := HCE.out w' h; obtain ⟨k1, k2, k3, k4⟩ := HK.out w' h; go_simp; rfl); exact hd0; simp only [List.setIfInBounds_toArray, List.set_cons_succ, List.set_cons_zero]
      (apply reg_take 7 rfl rfl (by decide +kernel) rfl); (intro w' h; have c1 := HCE.out w' h; obtain ⟨k1, k2, k3, k4⟩ := HK.out w' h; go_simp; rfl); exact hd0; simp only [List.setIfInBounds_toArray, List.set_cons_succ, List.set_cons_zero]
      (apply reg_take 8 rfl rfl (by decide +kernel) rfl); (intro w' h; have c1 := HCE.out w' h; obtain ⟨k1, k2, k3, k4⟩ := HK.out w' h; go_simp; rfl); exact hd0; simp only [List.setIfInBounds_toArray, List.set_cons_succ, List.set_cons_zero]
      (apply reg_take 9 rfl rfl (by decide +kernel) rfl); (intro w' h; have c1 := HCE.out w' h; obtain ⟨k1, k2, k3, k4⟩ := HK.out w' h; go_simp; rfl); exact hd0; simp only [List.setIfInBounds_toArray, List.set_cons_succ, List.set_cons_zero]
      (apply reg_take 10 rfl rfl (by decide +kernel) rfl); (intro w' h; have c1 := HCE.out w' h; obtain ⟨k1, k2, k3, k4⟩ := HK.out w' h; go_simp; rfl); exact hd0; simp only [List.setIfInBounds_toArray, List.set_cons_succ, List.set_cons_zero]
      (apply reg_take 11 rfl rfl (by decide +kernel) rfl); (intro w' h; have c1 := HCE.out w' h; obtain ⟨k1, k2, k3, k4⟩ := HK.out w' h; go_simp; rfl); exact hd0; simp only [List.setIfInBounds_toArray, List.set_cons_succ, List.set_cons_zero]
      (apply reg_take 12 rfl rfl (by decide +kernel) rfl); (intro w' h; have c1 := HCE.out w' h; obtain ⟨k1, k2, k3, k4⟩ := HK.out w' h; go_simp; rfl); exact hd0; simp only [List.setIfInBounds_toArray, List.set_cons_succ, List.set_cons_zero]
      (apply reg_take 13 rfl rfl (by decide +kernel) rfl); (intro w' h; have c1 := HCE.out w' h; obtain ⟨k1, k2, k3, k4⟩ := HK.out w' h; go_simp; rfl); exact hd0; simp only [List.setIfInBounds_toArray, List.set_cons_succ, List.set_cons_zero]
      (apply reg_take 14 rfl rfl (by decide +kernel) rfl); (intro w' h; have c1 := HCE.out w' h; obtain ⟨k1, k2, k3, k4⟩ := HK.out w' h; go_simp; rfl); exact hd0; simp only [List.setIfInBounds_toArray, List.set_cons_succ, List.set_cons_zero]
      (apply reg_take 15 rfl rfl (by decide +kernel) rfl); (intro w' h; have c1 := HCE.out w' h; obtain ⟨k1, k2, k3, k4⟩ := HK.out w' h; go_simp; rfl); exact hd0; simp only [List.setIfInBounds_toArray, List.set_cons_succ, List.set_cons_zero]
      (apply reg_take 16 rfl rfl (by decide +kernel) rfl); (intro w' h; have c1 := HCE.out w' h; obtain ⟨k1, k2, k3, k4⟩ := HK.out w' h; go_simp; rfl); exact hd0; simp only [List.setIfInBounds_toArray, List.set_cons_succ, List.set_cons_zero]
      (apply reg_take 17 rfl rfl (by decide +kernel) rfl); (intro w' h; have c1 := HCE.out w' h; obtain ⟨k1, k2, k3, k4⟩ := HK.out w' h; go_simp; rfl); exact hd0; simp only [List.setIfInBounds_toArray, List.set_cons_succ, List.set_cons_zero]
      refine reg_call 18 rfl rfl (by decide +kernel) rfl (f := 29) (args := #[.agg #[.pointer qa, .int .i64 (cnt x.1.m : Int)], .agg #[.pointer qb, .int .i64 (cnt y.1.m : Int)]]) (R := fun v w' => Hid (Below w.heap.size w w' ∧ RowsAt w' v (items (dm x.1.m y.1.m)).length ((items (dm x.1.m y.1.m)).flatMap cellD))) (by kernel_rfl) ((HD.out W3.drew hd0).mono fun e w' h => by
        obtain ⟨v, rfl, h⟩ := h
        exact ⟨v, rfl, hd0.trans (h.out.1.mono hd0.size), h.out.2⟩) ?_
      rintro v W4 h4
      have h5 := h4.out.1
      refine ⟨h5, ?_⟩
      simp only [List.setIfInBounds_toArray, List.set_cons_succ, List.set_cons_zero]
      (apply reg_take 19 rfl rfl (by decide +kernel) rfl); (intro w' h; go_simp; rfl); exact h5; simp only [List.setIfInBounds_toArray, List.set_cons_succ, List.set_cons_zero]
      (apply reg_take 20 rfl rfl (by decide +kernel) rfl); (intro w' h; go_simp; rfl); exact h5; simp only [List.setIfInBounds_toArray, List.set_cons_succ, List.set_cons_zero]
      refine reg_done (by decide +kernel) ?_
      clear h5
      go_wp2
      go_ret2
      refine ⟨_, by rw [HM.out]; rfl, h4.out.1, ?_⟩
      rw [HM.out]
      exact h4.out.2
end Go.Proofs.YtednjhlkhecihaaDoor
