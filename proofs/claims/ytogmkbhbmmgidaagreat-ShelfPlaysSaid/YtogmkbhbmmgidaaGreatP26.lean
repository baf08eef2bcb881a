import Derived.Test.YtogmkbhbmmgidaaGreatP24
import Derived.Test.YtogmkbhbmmgidaaGreatP25
/- Part 26 of a proof; the last part says what is proved. -/
section
namespace Go.Proofs.YtogmkbhbmmgidaaGreat
open Go.RowKit Go.Sl Go.ChangeMaps
theorem ref_congr16 {D : DiskM} {L M : List SecV} (h : RefOf D L) (e : M.map Prod.fst = L.map Prod.fst) : RefOf D M := by
  have hl : M.length = L.length := by have := congrArg List.length e; simpa using this
  have key : ∀ (i : Nat) (x : SecV), M[i]? = some x → ∃ y : SecV, L[i]? = some y ∧ x.1 = y.1 := by
    intro i x hx
    have h1 : (M.map Prod.fst)[i]? = some x.1 := by rw [List.getElem?_map, hx]; rfl
    rw [e, List.getElem?_map] at h1
    obtain ⟨y, hy, h2⟩ := Option.map_eq_some_iff.1 h1
    exact ⟨y, hy, h2.symm⟩
  refine ⟨by rw [hl]; exact h.len, fun i x hx => ?_, fun i x hx => ?_, fun i x s hx hs => ?_, fun i x hx => ?_, fun i x hx => ?_⟩
  all_goals obtain ⟨y, hy, h2⟩ := key i x hx
  all_goals rw [h2]
  · exact h.dur i y hy
  · exact h.pend i y hy
  · exact h.cac i y s hy hs
  · exact h.fault i y hy
  · exact h.clen i y hy
theorem app_nil2 (w : World) : (Builtin.append_ #[51, 51] 51 #[.slice none 0 0, .slice none 0 0]).run Tryz.prog w = .ok (.slice none 0 0) w := by kernel_rfl
theorem app_row {w : World} {v : Value} {l : List UInt8} {F : HProp} (h : Sat w (rowB TU8 v l * F)) (hl : l.length ≤ 1000) :
    ∃ ao cap w', (Builtin.append_ #[51, 51] 51 #[.slice none 0 0, v]).run Tryz.prog w = .ok (.slice ao l.length cap) w' ∧ Same w w' ∧ Sat w' (rowB TU8 (.slice ao l.length cap) l * (rowB TU8 v l * F)) := by
  rcases rowB_iff.1 h with ⟨rfl, rfl, hs⟩ | ⟨g, cap, cur, fr, ⟨rfl, hle, hc⟩, hs⟩
  · exact ⟨none, 0, w, app_nil2 w, Same.refl w, rowB_nil h⟩
  · obtain ⟨ti, hti, hz0, hts, hz2⟩ := info_parts info_u8
    obtain ⟨v5, w5, hr5, hsm5, hs5⟩ := run_append_ownAt (P := Tryz.prog) 51 51 TU8 ti _ Tryz.underlying51 hti hz0 (by rw [hts]; rfl) (.slice none 0 0) 0 [] (by rw [hts]; exact ownAt_nil.2 h) ⟨g, 0, none⟩ l.length cap (bytesL l) (by rw [hts, bytesL_len]; omega)
      (by
        intro j u hu
        rw [Addr.add_mid, Nat.zero_add, cells_at hs.block]
        exact hc j u hu) (bytesL_one _) (by unfold maxLen; omega) (by rw [hz2]; omega)
    rw [hts, List.nil_append, Nat.zero_add] at hs5
    obtain ⟨ao, cap', rfl⟩ := ownAt_slice hs5
    exact ⟨ao, cap', w5, hr5, hsm5, rowB_own hs5⟩
structure RcSt (w : World) (p q : Nat) (ao : Option Addr) (n cap : Nat) (L : List SecV) (F : HProp) (i : Value) (wr : World) : Prop where
  st : ∃ (k : Nat) (M : List SecV) (v : Value), k ≤ n ∧ i = .int .i64 (k : Int) ∧ M.length = k ∧ M.map Prod.fst = (L.take k).map Prod.fst ∧
    Hid (Same w wr ∧ Sat wr (refA p ao n cap L (pts q (.cells #[v] TRk (0, 0)) * (ownAt TRs 4 v k (M.flatMap secE) * (secsT TU8 M * F)))))
set_option maxRecDepth 20000 in
set_option maxHeartbeats 4000000 in
theorem rclone16_any (p : Nat) (D : DiskM) (F : HProp) (w : World) (hS : Sat w (refD RT p D * F)) :
    Calls Tryz.prog 25 #[.pointer (some ⟨p, 0, none⟩)] w fun e w' => ∃ q : Nat, e = .returned (.pointer (some ⟨q, 0, none⟩)) ∧ Hid (Same w w' ∧ Sat w' (refD RT q D * (refD RT p D * F))) := by
  obtain ⟨lv, L, ⟨hwf, hr⟩, hs⟩ := refD_iff.1 hS
  obtain ⟨ao, cap, rfl⟩ := ownAt_slice hs.right
  obtain ⟨n, hn⟩ : ∃ n, L.length = n := ⟨_, rfl⟩
  have hn6 : n ≤ 65536 := by have h1 := hwf.small; have h2 := hr.len; omega
  have hs' : Sat w (refA p ao n cap L F) := by unfold refA; rw [hn] at hs ⊢; exact hs
  have h0 := hs'.alloc (.cells #[.slice none 0 0] TRk)
  have hsm0 := (Same.refl w).alloc (.cells #[.slice none 0 0] TRk)
  have H0 := Lib.hid (show RcSt w p w.heap.size ao n cap L F (.int .i64 0) (w.alloc (.cells #[.slice none 0 0] TRk)) from ⟨0, [], .slice none 0 0, Nat.zero_le _, rfl, rfl, rfl, hsm0, by
    have h1 : Sat _ (ownAt TRs 4 (.slice none 0 0) 0 [] * _) := ownAt_nil.2 h0
    refine h1.perm ?_
    unfold refA
    rw [show secsT TU8 [] = emp from rfl, emp_star]
    show _ = pts p _ * (_ * (_ * (_ * (ownAt TRs 4 _ 0 [] * _))))
    ac_rfl⟩)
  have HW := Lib.hid (And.intro hwf hr)
  have HN := Lib.hid hn
  clear hS hs hs' h0 hsm0 hwf hr hn
  go_enter Tryz.func25, Tryz.ntmps25
  go_upto_region 3 with (fail)
  generalize w.alloc (.cells #[.slice none 0 0] TRk) = W at H0 ⊢
  generalize w.heap.size = q at H0 ⊢
  go_loopw [4] (fun i wr => RcSt w p q ao n cap L F i wr) (fun i _ => n - (intOf i).toNat)
  case atStart => exact H0.out
  case round =>
    clear H0
    obtain ⟨k, M, v, hk, rfl, hM, hMe, H1⟩ := hrel.st
    clear hrel
    have c0 : wr.cell? ⟨p, 0, none⟩ = some (.slice ao n cap) := cells_at (Sat.block H1.out.2) 0
    by_cases hlt : k < n
    case neg =>
      obtain rfl : k = n := by omega
      have hltd : decide (k < k) = false := decide_eq_false (by omega)
      have HME := Lib.hid (And.intro hM hMe)
      clear hlt hk hM hMe
      go_wp2
      go_ret
      have hMe := HME.out.2
      rw [← HN.out, List.take_length] at hMe
      refine ⟨q, rfl, H1.out.1, refD_iff.2 ⟨v, M, ⟨HW.out.1, ref_congr16 HW.out.2 hMe⟩, ?_⟩⟩
      rw [HME.out.1]
      have h9 := H1.out.2.perm (show _ = refA p ao k cap L (pts q (.cells #[v] TRk (0, 0)) * (ownAt TRs 4 v k (M.flatMap secE) * (secsT TU8 M * F))) from rfl)
      unfold refA at h9
      have h10 := h9.perm (show _ = pts p (.cells #[.slice ao k cap] TRk (0, 0)) * (ownAt TRs 4 (.slice ao k cap) L.length (L.flatMap secE) * (secsT TU8 L * (pts q (.cells #[v] TRk (0, 0)) * (ownAt TRs 4 v k (M.flatMap secE) * (secsT TU8 M * F))))) from rfl)
      have h11 := (refD_iff (T := RT)).2 ⟨.slice ao k cap, L, HW.out, h10⟩
      exact h11.perm (by show _ = pts q _ * (_ * (_ * (refD RT p D * F))); ac_rfl)
    case pos =>
      have hltd : decide ((k : Int) < (n : Int)) = true := decide_eq_true (by omega)
      have hkn : (k : Int) < (n : Int) := by omega
      have hk0 : (0 : Int) ≤ (k : Int) := by omega
      have hk6 : (k : Int) ≤ 65536 := by omega
      obtain ⟨x, hx⟩ : ∃ x, L[k]? = some x := ⟨_, List.getElem?_eq_getElem (by have := HN.out; omega)⟩
      obtain ⟨g, rfl, -⟩ := sec_cells (Sat.right H1.out.2) hx
      have ho : Sat wr (refO p g n cap L (pts q (.cells #[v] TRk (0, 0)) * (ownAt TRs 4 v k (M.flatMap secE) * (secsT TU8 M * F)))) := H1.out.2
      obtain ⟨-, e0, e1, e2, e3, -⟩ := refO_cells ho hx
      have hdl : x.1.dur.length ≤ 1000 := by
        rw [HW.out.2.dur k x hx, HW.out.1.dur k (by have := HW.out.2.len; have := HN.out; omega)]; omega
      have hcl : x.1.cac.length ≤ 1000 := Nat.le_trans (HW.out.2.clen k x hx) (by omega)
      obtain ⟨⟨du, ca, pe, fa⟩, vd, vc⟩ := x
      have HX := Lib.hid hx
      have HO := Lib.hid (And.intro H1.out.1 ho)
      have HK := Lib.hid (And.intro hk (And.intro hlt (And.intro hM hMe)))
      obtain ⟨R1, R2, hrd, hrc⟩ := refO_rows ho hx
      dsimp only at hrd hrc
      obtain ⟨aod, capd, rfl, -⟩ := bytes_cells hrd
      obtain ⟨aoc, capc, rfl, -⟩ := bytes_cells hrc
      clear H1 hrd hrc R1 R2
      dsimp only at e0 e1 e2 e3 hdl hcl
      have HLL := Lib.hid (And.intro hdl hcl)
      obtain ⟨nd, hnd⟩ : ∃ nd, du.length = nd := ⟨_, rfl⟩
      obtain ⟨nc, hnc⟩ : ∃ nc, ca.length = nc := ⟨_, rfl⟩
      rw [hnd] at e0
      rw [hnc] at e1
      have HND := Lib.hid (And.intro hnd hnc)
      clear hnd hnc
      clear ho hx hk hlt hM hMe hdl hcl
      go_upto_region 8 with (fail)
      have hA := HO.out.2.alloc (.cells #[.slice aod nd capd, .slice aoc nc capc, .bool pe, .int .i64 fa] TRs)
      have hsmA := HO.out.1.alloc (.cells #[.slice aod nd capd, .slice aoc nc capc, .bool pe, .int .i64 fa] TRs)
      clear c0 e0 e1 e2 e3 hltd hkn hk0
      generalize wr.alloc (.cells #[.slice aod nd capd, .slice aoc nc capc, .bool pe, .int .i64 fa] TRs) = W2 at hA hsmA ⊢
      generalize wr.heap.size = B at hA ⊢
      obtain ⟨R, hR⟩ := secsT_split TU8 L k (List.getElem?_eq_some_iff.1 HX.out).1
      have hRx := hR (⟨du, ca, pe, fa⟩, .slice aod du.length capd, .slice aoc ca.length capc)
      rw [set_self HX.out, HND.out.1, HND.out.2] at hRx
      obtain ⟨O, hO⟩ : ∃ O, Hid (pts p (.cells #[.slice (some ⟨g, 0, none⟩) n cap] TRk (0, 0)) * (ownAt TRs 4 (.slice (some ⟨g, 0, none⟩) n cap) L.length (L.flatMap secE) * (R * (secsT TU8 M * F))) = O) := ⟨_, Lib.hid rfl⟩
      have HRX := Lib.hid (show secsT TU8 L = rowB TU8 (.slice aod nd capd) du * rowB TU8 (.slice aoc nc capc) ca * R from hRx)
      have H2 := Lib.hid (And.intro hsmA.drew ((hA.perm (show _ = rowB TU8 (.slice aod nd capd) du * (rowB TU8 (.slice aoc nc capc) ca * (pts B (.cells #[.slice aod nd capd, .slice aoc nc capc, .bool pe, .int .i64 fa] TRs (0, 0)) * (pts q (.cells #[v] TRk (0, 0)) * (ownAt TRs 4 v k (M.flatMap secE) * O)))) from by
        unfold refO
        rw [HRX.out, ← hO.out]
        ac_rfl)).drew))
      clear hA hsmA hR hRx
      have hS0 : W2.drew.cell? ⟨q, 0, none⟩ = some (v) ∧ W2.drew.cell? ⟨B, 0, none⟩ = some (.slice aod nd capd) ∧ W2.drew.cell? ⟨B, 1, none⟩ = some (.slice aoc nc capc) ∧ W2.drew.cell? ⟨B, 2, none⟩ = some (.bool pe) ∧ W2.drew.cell? ⟨B, 3, none⟩ = some (.int .i64 fa) := by
        have h := H2.out.2.right.right
        exact ⟨cells_at h.right.block 0, cells_at h.block 0, cells_at h.block 1, cells_at h.block 2, cells_at h.block 3⟩
      refine reg_begin (fun w' => w'.cell? ⟨q, 0, none⟩ = some (v) ∧ w'.cell? ⟨B, 0, none⟩ = some (.slice aod nd capd) ∧ w'.cell? ⟨B, 1, none⟩ = some (.slice aoc nc capc) ∧ w'.cell? ⟨B, 2, none⟩ = some (.bool pe) ∧ w'.cell? ⟨B, 3, none⟩ = some (.int .i64 fa)) (by kernel_rfl) ?_
      generalize W2.drew = W3 at H2 hS0 ⊢
      (apply reg_take 0 rfl rfl (by decide +kernel) rfl); (rintro w' ⟨h1, h2, h3, h4, h5⟩; go_simp; rfl); exact hS0; simp only [List.setIfInBounds_toArray, List.set_cons_succ, List.set_cons_zero]
      (apply reg_take 1 rfl rfl (by decide +kernel) rfl); (rintro w' ⟨h1, h2, h3, h4, h5⟩; go_simp; rfl); exact hS0; simp only [List.setIfInBounds_toArray, List.set_cons_succ, List.set_cons_zero]
      (apply reg_take 2 rfl rfl (by decide +kernel) rfl); (rintro w' ⟨h1, h2, h3, h4, h5⟩; go_simp; rfl); exact hS0; simp only [List.setIfInBounds_toArray, List.set_cons_succ, List.set_cons_zero]
      (apply reg_take 3 rfl rfl (by decide +kernel) rfl); (rintro w' ⟨h1, h2, h3, h4, h5⟩; go_simp; rfl); exact hS0; simp only [List.setIfInBounds_toArray, List.set_cons_succ, List.set_cons_zero]
      (apply reg_take 4 rfl rfl (by decide +kernel) rfl); (rintro w' ⟨h1, h2, h3, h4, h5⟩; go_simp; rfl); exact hS0; simp only [List.setIfInBounds_toArray, List.set_cons_succ, List.set_cons_zero]
      (apply reg_take 5 rfl rfl (by decide +kernel) rfl); (rintro w' ⟨h1, h2, h3, h4, h5⟩; go_simp; rfl); exact hS0; simp only [List.setIfInBounds_toArray, List.set_cons_succ, List.set_cons_zero]
      (apply reg_take 6 rfl rfl (by decide +kernel) rfl); (rintro w' ⟨h1, h2, h3, h4, h5⟩; go_simp; rfl); exact hS0; simp only [List.setIfInBounds_toArray, List.set_cons_succ, List.set_cons_zero]
      (apply reg_take 7 rfl rfl (by decide +kernel) rfl); (rintro w' ⟨h1, h2, h3, h4, h5⟩; go_simp; rfl); exact hS0; simp only [List.setIfInBounds_toArray, List.set_cons_succ, List.set_cons_zero]
      (apply reg_take 9 rfl rfl (by decide +kernel) rfl); (rintro w' ⟨h1, h2, h3, h4, h5⟩; go_simp; rfl); exact hS0; simp only [List.setIfInBounds_toArray, List.set_cons_succ, List.set_cons_zero]
      (apply reg_take 10 rfl rfl (by decide +kernel) rfl); (rintro w' ⟨h1, h2, h3, h4, h5⟩; go_simp; rfl); exact hS0; simp only [List.setIfInBounds_toArray, List.set_cons_succ, List.set_cons_zero]
      (apply reg_take 11 rfl rfl (by decide +kernel) rfl); (rintro w' ⟨h1, h2, h3, h4, h5⟩; go_simp; rfl); exact hS0; simp only [List.setIfInBounds_toArray, List.set_cons_succ, List.set_cons_zero]
      (apply reg_take 13 rfl rfl (by decide +kernel) rfl); (rintro w' ⟨h1, h2, h3, h4, h5⟩; go_simp; rfl); exact hS0; simp only [List.setIfInBounds_toArray, List.set_cons_succ, List.set_cons_zero]
      (apply reg_take 14 rfl rfl (by decide +kernel) rfl); (rintro w' ⟨h1, h2, h3, h4, h5⟩; go_simp; rfl); exact hS0; simp only [List.setIfInBounds_toArray, List.set_cons_succ, List.set_cons_zero]
      (apply reg_take 15 rfl rfl (by decide +kernel) rfl); (rintro w' ⟨h1, h2, h3, h4, h5⟩; go_simp; rfl); exact hS0; simp only [List.setIfInBounds_toArray, List.set_cons_succ, List.set_cons_zero]
      (apply reg_take 16 rfl rfl (by decide +kernel) rfl); (rintro w' ⟨h1, h2, h3, h4, h5⟩; go_simp; rfl); exact hS0; simp only [List.setIfInBounds_toArray, List.set_cons_succ, List.set_cons_zero]
      obtain ⟨a1, c1, w5, hr5, hm5, hs5⟩ := app_row H2.out.2 HLL.out.1
      obtain ⟨a2, c2, w6, hr6, hm6, hs6⟩ := app_row (hs5.perm (show _ = rowB TU8 (.slice aoc nc capc) ca * (rowB TU8 (.slice a1 du.length c1) du * (rowB TU8 (.slice aod nd capd) du * (pts B (.cells #[.slice aod nd capd, .slice aoc nc capc, .bool pe, .int .i64 fa] TRs (0, 0)) * (pts q (.cells #[v] TRk (0, 0)) * (ownAt TRs 4 v k (M.flatMap secE) * O))))) from by ac_rfl)) HLL.out.2
      have hS5 : w5.cell? ⟨q, 0, none⟩ = some (v) ∧ w5.cell? ⟨B, 0, none⟩ = some (.slice aod nd capd) ∧ w5.cell? ⟨B, 1, none⟩ = some (.slice aoc nc capc) ∧ w5.cell? ⟨B, 2, none⟩ = some (.bool pe) ∧ w5.cell? ⟨B, 3, none⟩ = some (.int .i64 fa) := by
        have h := hs5.right.right.right
        exact ⟨cells_at h.right.block 0, cells_at h.block 0, cells_at h.block 1, cells_at h.block 2, cells_at h.block 3⟩
      have hS4 : w6.cell? ⟨q, 0, none⟩ = some (v) ∧ w6.cell? ⟨B, 0, none⟩ = some (.slice aod nd capd) ∧ w6.cell? ⟨B, 1, none⟩ = some (.slice aoc nc capc) ∧ w6.cell? ⟨B, 2, none⟩ = some (.bool pe) ∧ w6.cell? ⟨B, 3, none⟩ = some (.int .i64 fa) := by
        have h := hs6.right.right.right.right
        exact ⟨cells_at h.right.block 0, cells_at h.block 0, cells_at h.block 1, cells_at h.block 2, cells_at h.block 3⟩
      rw [HND.out.1] at hr5 hs6
      rw [HND.out.2] at hr6 hs6
      refine reg_run 8 (.slice a1 nd c1) (w5) rfl rfl (by decide +kernel) rfl (exec_append rfl rfl rfl hr5) (hS5) ?_; simp only [List.setIfInBounds_toArray, List.set_cons_succ, List.set_cons_zero]
      refine reg_run 12 (.slice a2 nc c2) (w6) rfl rfl (by decide +kernel) rfl (exec_append rfl rfl rfl hr6) (hS4) ?_; simp only [List.setIfInBounds_toArray, List.set_cons_succ, List.set_cons_zero]
      have H4 := Lib.hid (show Same w w6 ∧ Sat w6 (rowB TU8 (.slice a1 nd c1) du * (rowB TU8 (.slice a2 nc c2) ca * (pts B (.cells #[.slice aod nd capd, .slice aoc nc capc, .bool pe, .int .i64 fa] TRs (0, 0)) * (pts q (.cells #[v] TRk (0, 0)) * (ownAt TRs 4 v k (M.flatMap secE) * (rowB TU8 (.slice aod nd capd) du * (rowB TU8 (.slice aoc nc capc) ca * O))))))) from ⟨H2.out.1.trans (hm5.trans hm6), hs6.perm (by ac_rfl)⟩)
      clear hr5 hr6 hm5 hm6 hs5 hs6 hS5
      generalize w6 = w4 at H4 hS4 ⊢
      clear hS0 H2
      (apply reg_take 17 rfl rfl (by decide +kernel) rfl); (rintro w' ⟨h1, h2, h3, h4, h5⟩; go_simp; rfl); exact hS4; simp only [List.setIfInBounds_toArray, List.set_cons_succ, List.set_cons_zero]
      have hA5 := (H4.out.2.alloc (.cells #[.slice a1 nd c1, .slice a2 nc c2, .bool pe, .int .i64 fa] TRs)).perm (show _ = ownAt TRs 4 v k (M.flatMap secE) * (pts w4.heap.size (.cells #[.slice a1 nd c1, .slice a2 nc c2, .bool pe, .int .i64 fa] TRs (0, 0)) * (pts q (.cells #[v] TRk (0, 0)) * (pts B (.cells #[.slice aod nd capd, .slice aoc nc capc, .bool pe, .int .i64 fa] TRs (0, 0)) * (rowB TU8 (.slice a1 nd c1) du * (rowB TU8 (.slice a2 nc c2) ca * (rowB TU8 (.slice aod nd capd) du * (rowB TU8 (.slice aoc nc capc) ca * O))))))) from by ac_rfl)
      have hS5 : ((w4.alloc (.cells #[.slice a1 nd c1, .slice a2 nc c2, .bool pe, .int .i64 fa] TRs))).cell? ⟨q, 0, none⟩ = some (v) ∧ ((w4.alloc (.cells #[.slice a1 nd c1, .slice a2 nc c2, .bool pe, .int .i64 fa] TRs))).cell? ⟨B, 0, none⟩ = some (.slice aod nd capd) ∧ ((w4.alloc (.cells #[.slice a1 nd c1, .slice a2 nc c2, .bool pe, .int .i64 fa] TRs))).cell? ⟨B, 1, none⟩ = some (.slice aoc nc capc) ∧ ((w4.alloc (.cells #[.slice a1 nd c1, .slice a2 nc c2, .bool pe, .int .i64 fa] TRs))).cell? ⟨B, 2, none⟩ = some (.bool pe) ∧ ((w4.alloc (.cells #[.slice a1 nd c1, .slice a2 nc c2, .bool pe, .int .i64 fa] TRs))).cell? ⟨B, 3, none⟩ = some (.int .i64 fa) := by
        have h := hA5.right.right
        exact ⟨cells_at h.block 0, cells_at h.right.block 0, cells_at h.right.block 1, cells_at h.right.block 2, cells_at h.right.block 3⟩
      refine reg_run 18 (.slice (some ⟨w4.heap.size, 0, none⟩) 1 1) (w4.alloc (.cells #[.slice a1 nd c1, .slice a2 nc c2, .bool pe, .int .i64 fa] TRs)) rfl rfl (by decide +kernel) rfl (by go_simp) (hS5) ?_; simp only [List.setIfInBounds_toArray, List.set_cons_succ, List.set_cons_zero]
      have H5 := Lib.hid (And.intro (H4.out.1.alloc (.cells #[.slice a1 nd c1, .slice a2 nc c2, .bool pe, .int .i64 fa] TRs)) hA5)
      clear hA5 hS4 H4
      generalize w4.alloc (.cells #[.slice a1 nd c1, .slice a2 nc c2, .bool pe, .int .i64 fa] TRs) = w5 at H5 hS5 ⊢
      generalize w4.heap.size = m at H5 ⊢
      obtain ⟨ti, hti, hz0, hts, hz2⟩ := info_parts info_Rs
      obtain ⟨v', w6, hr, hsm6, hs6⟩ := run_append_ownAt (P := Tryz.prog) 99 99 TRs ti _ Tryz.underlying99 hti hz0 (by rw [hts]; rfl) v k (M.flatMap secE) (by rw [hts]; exact H5.out.2) ⟨m, 0, none⟩ 1 1 [.slice a1 nd c1, .slice a2 nc c2, .bool pe, .int .i64 fa] (by rw [hts]; rfl)
        (by intro j u hu; rw [Addr.add_mid, cells_at H5.out.2.right.block, Nat.zero_add]; simpa using hu) (by simp [Value.oneCell']) (by unfold maxLen; omega) (by rw [hz2]; omega)
      rw [hts] at hs6
      have hS6 : w6.cell? ⟨q, 0, none⟩ = some (v) ∧ w6.cell? ⟨B, 0, none⟩ = some (.slice aod nd capd) ∧ w6.cell? ⟨B, 1, none⟩ = some (.slice aoc nc capc) ∧ w6.cell? ⟨B, 2, none⟩ = some (.bool pe) ∧ w6.cell? ⟨B, 3, none⟩ = some (.int .i64 fa) := by
        have h := hs6.right.right
        exact ⟨cells_at h.block 0, cells_at h.right.block 0, cells_at h.right.block 1, cells_at h.right.block 2, cells_at h.right.block 3⟩
      refine reg_run 19 (v') (w6) rfl rfl (by decide +kernel) rfl (exec_append rfl rfl rfl hr) (hS6) ?_; simp only [List.setIfInBounds_toArray, List.set_cons_succ, List.set_cons_zero]
      (apply reg_take 20 rfl rfl (by decide +kernel) rfl); (rintro w' ⟨h1, h2, h3, h4, h5⟩; go_simp; rfl); exact hS6; simp only [List.setIfInBounds_toArray, List.set_cons_succ, List.set_cons_zero]
      (apply reg_take 21 rfl rfl (by decide +kernel) rfl); (rintro w' ⟨h1, h2, h3, h4, h5⟩; go_simp; rfl); exact hS6; simp only [List.setIfInBounds_toArray, List.set_cons_succ, List.set_cons_zero]
      obtain ⟨ao', cp', rfl⟩ := ownAt_slice hs6
      obtain ⟨ip, hip, hip2⟩ := Option.map_eq_some_iff.1 (show (Tryz.prog.info? 99).map (·.size) = some 1 by kernel_rfl)
      have hs7 := hs6.perm (show _ = pts q (.cells #[v] TRk (0, 0)) * (ownAt TRs 4 (.slice ao' (k + 1) cp') (k + 1) (M.flatMap secE ++ [.slice a1 nd c1, .slice a2 nc c2, .bool pe, .int .i64 fa]) * (pts m (.cells #[.slice a1 nd c1, .slice a2 nc c2, .bool pe, .int .i64 fa] TRs (0, 0)) * (pts B (.cells #[.slice aod nd capd, .slice aoc nc capc, .bool pe, .int .i64 fa] TRs (0, 0)) * (rowB TU8 (.slice a1 nd c1) du * (rowB TU8 (.slice a2 nc c2) ca * (rowB TU8 (.slice aod nd capd) du * (rowB TU8 (.slice aoc nc capc) ca * O))))))) from by ac_rfl)
      refine reg_do_last 22 (w6.setCell ⟨q, 0, none⟩ (.slice ao' (k + 1) cp')) rfl rfl (by decide +kernel) rfl (exec_store_cell rfl rfl rfl hip hip2 rfl hS6.1 (thawed_at hs7.block 0)) ?_
      have H7 := Lib.hid (show Same w (w6.setCell ⟨q, 0, none⟩ (.slice ao' (k + 1) cp')) ∧ Sat (w6.setCell ⟨q, 0, none⟩ (.slice ao' (k + 1) cp')) (refA p (some ⟨g, 0, none⟩) n cap L (pts q (.cells #[.slice ao' (k + 1) cp'] TRk (0, 0)) * (ownAt TRs 4 (.slice ao' (k + 1) cp') (k + 1) ((M ++ [((⟨du, ca, pe, fa⟩, .slice a1 nd c1, .slice a2 nc c2) : SecV)]).flatMap secE) * (secsT TU8 (M ++ [((⟨du, ca, pe, fa⟩, .slice a1 nd c1, .slice a2 nc c2) : SecV)]) * F)))) from by
        refine ⟨(H5.out.1.trans hsm6).setCell _ _, ?_⟩
        have h9 := hs7.setCell (i := 0) (.slice ao' (k + 1) cp')
        simp only [List.setIfInBounds_toArray, List.set_cons_zero] at h9
        have h10 := h9.perm (show _ = (pts m (.cells #[.slice a1 nd c1, .slice a2 nc c2, .bool pe, .int .i64 fa] TRs (0, 0)) * pts B (.cells #[.slice aod nd capd, .slice aoc nc capc, .bool pe, .int .i64 fa] TRs (0, 0))) * (pts q (.cells #[.slice ao' (k + 1) cp'] TRk (0, 0)) * (ownAt TRs 4 (.slice ao' (k + 1) cp') (k + 1) (M.flatMap secE ++ [.slice a1 nd c1, .slice a2 nc c2, .bool pe, .int .i64 fa]) * (rowB TU8 (.slice a1 nd c1) du * (rowB TU8 (.slice a2 nc c2) ca * (rowB TU8 (.slice aod nd capd) du * (rowB TU8 (.slice aoc nc capc) ca * O)))))) from by ac_rfl)
        rw [List.flatMap_append, secsT_append]
        refine h10.right.perm ?_
        unfold refA
        rw [HRX.out, ← hO.out]
        show _ = _ * (_ * (_ * (pts q _ * (ownAt TRs 4 _ (k + 1) (M.flatMap secE ++ [.slice a1 nd c1, .slice a2 nc c2, .bool pe, .int .i64 fa]) * (secsT TU8 M * (rowB TU8 (.slice a1 nd c1) du * rowB TU8 (.slice a2 nc c2) ca * emp) * F)))))
        rw [star_emp]
        ac_rfl)
      clear hS5 hS6 hs6 hs7 hr hsm6 hti hz0 hts hz2 hip hip2 H5
      generalize w6.setCell ⟨q, 0, none⟩ (.slice ao' (k + 1) cp') = W7 at H7 ⊢
      go_wp2
      go_roundw
      case rel =>
        refine ⟨⟨k + 1, _, _, HK.out.2.1, rfl, by rw [List.length_append, HK.out.2.2.1]; rfl, ?_, H7.out⟩⟩
        rw [List.map_append, HK.out.2.2.2, List.take_add_one, HX.out, List.map_append]
        rfl
      case measure => have := HK.out.2.1; simp only [intOf]; omega
end Go.Proofs.YtogmkbhbmmgidaaGreat
end
section
namespace Go.Proofs.YtogmkbhbmmgidaaGreat
open Go.RowKit Go.Sl Go.ChangeMaps
theorem rsh_image {p : Nat} {S : ShelfM} {F : HProp} {w : World} {vb vs vi : Value} {ps qs : List Nat} {q : Nat} {R : HProp} {D : DiskM} (hli : qs.length = S.images.length) (h : Sat w (rshO p S vb vs vi ps qs q D R F)) {j : Nat} (hj : j < S.images.length) :
    ∃ gi capi qj R2, vi = .slice (some ⟨gi, 0, none⟩) S.images.length capi ∧ w.cell? ⟨p, 8, none⟩ = some vi ∧ w.cell? ⟨gi, j, none⟩ = some (.pointer (some ⟨qj, 0, none⟩)) ∧ refsT RT qs S.images = refD RT qj (S.images.getD j ShelfM.d0) * R2 ∧ qs[j]? = some qj := by
  unfold rshO at h
  obtain ⟨⟨_, _, q8, _, _⟩, _, _⟩ := rs_cells h
  obtain ⟨gi, capi, rfl, hc⟩ := ownAt_cells h.right.right.right (by omega)
  obtain ⟨qj, hq⟩ : ∃ q, qs[j]? = some q := ⟨_, List.getElem?_eq_getElem (by omega)⟩
  obtain ⟨R2, hR⟩ := refsT_split (T := RT) qs S.images j (by omega) hj
  have hD : S.images[j]? = some (S.images.getD j ShelfM.d0) := by rw [List.getD_eq_getElem?_getD, List.getElem?_eq_getElem hj]; rfl
  have e := hR qj (S.images.getD j ShelfM.d0)
  rw [set_self hq, set_self hD] at e
  exact ⟨gi, capi, qj, R2, rfl, q8, hc j (ptrV qj) (by rw [List.getElem?_map, hq]; rfl), e, hq⟩
theorem rsh_c8 {p : Nat} {S : ShelfM} {F : HProp} {w : World} (h : Sat w (rshAt RS p S * F)) : ∃ ao cap, w.cell? ⟨p, 8, none⟩ = some (.slice ao S.images.length cap) := by
  obtain ⟨vb, vs, vi, ps, qs, _, hs⟩ := rshAt_iff.1 h
  obtain ⟨⟨_, _, q8, _, _⟩, _, _⟩ := rs_cells hs
  obtain ⟨ao, cap, rfl⟩ := ownAt_slice hs.right.right.right
  exact ⟨ao, cap, q8⟩
set_option maxRecDepth 20000 in
set_option maxHeartbeats 4000000 in
theorem rinsert_any (p : Nat) (S : ShelfM) (F : HProp) (d im : Int) (w : World) (hS : Sat w (rshAt RS p S * F)) :
    Calls Tryz.prog 45 #[.pointer (some ⟨p, 0, none⟩), .int .i64 d, .int .i64 im] w fun e w' => e = .returned (.int .i64 (S.insert d im).2) ∧ Hid (Same w w' ∧ ∃ X, Sat w' (rshAt RS p (S.insert d im).1 * (X * F))) := by
  have hwf := rshAt_wf hS
  have HST := Lib.hid (rstate_any p S F d w hS)
  have HS := Lib.hid hS
  by_cases h0 : S.state d = 0
  · have hk : S.insert d im = (S, 1) := by unfold ShelfM.insert; rw [if_pos h0]
    rw [hk]
    rw [h0] at HST
    clear hk h0 hwf hS
    go_enter Tryz.func45, Tryz.ntmps45
    go_wp2_with (go_at_call 53; refine HST.out.mono ?_; rintro e w1 ⟨rfl, rfl⟩)
    go_ret
    exact ⟨rfl, Same.refl w, emp, by rw [emp_star]; exact HS.out⟩
  have e0 : (S.state d == 0) = false := by simp [h0]
  obtain ⟨ao8, cap8, c8⟩ := rsh_c8 hS
  by_cases hi : im < 0 ∨ (S.images.length : Int) ≤ im
  · have hk : S.insert d im = (S, 12) := by unfold ShelfM.insert; rw [if_neg h0, if_pos hi]
    rw [hk]
    generalize S.images.length = m at c8 hi
    generalize S.state d = st at HST e0
    clear hk h0 hwf hS
    by_cases h1 : im < 0
    · have hA : decide (im < 0) = true := decide_eq_true h1
      clear hi
      go_enter Tryz.func45, Tryz.ntmps45
      go_wp2_with (go_at_call 53; refine HST.out.mono ?_; rintro e w1 ⟨rfl, rfl⟩)
      go_ret
      exact ⟨rfl, Same.refl w, emp, by rw [emp_star]; exact HS.out⟩
    · have hA : decide (im < 0) = false := decide_eq_false h1
      have hB : decide ((m : Int) ≤ im) = true := decide_eq_true (by omega)
      clear hi
      go_enter Tryz.func45, Tryz.ntmps45
      go_wp2_with (go_at_call 53; refine HST.out.mono ?_; rintro e w1 ⟨rfl, rfl⟩)
      go_ret
      exact ⟨rfl, Same.refl w, emp, by rw [emp_star]; exact HS.out⟩
  · clear c8
    obtain ⟨hd0, hd1⟩ := ShelfM.state_in hwf h0
    obtain ⟨k, rfl⟩ := Int.eq_ofNat_of_zero_le hd0
    obtain ⟨j, rfl⟩ := Int.eq_ofNat_of_zero_le (show 0 ≤ im by omega)
    have hj : j < S.images.length := by omega
    obtain ⟨vb, vs, vi, ps, qs, q, R, ho, hs⟩ := rsh_open hS (k := k) (by omega)
    obtain ⟨gs, caps, rfl, c7, cs, fs⟩ := rsh_states ho hs
    obtain ⟨gi, capi, qj, R2, rfl, c8, ci, hR2, hqj⟩ := rsh_image ho.li hs hj
    have hkd : S.insert (k : Int) (j : Int) = if S.state k = 1 then (S, 19) else (S.setBay k ⟨S.images.getD j ShelfM.d0, 1⟩, 0) := by
      unfold ShelfM.insert
      rw [if_neg h0, if_neg hi, Int.toNat_natCast]
    obtain ⟨n, hn⟩ : ∃ n, S.bays.length = n := ⟨_, rfl⟩
    obtain ⟨m, hm⟩ : ∃ m, S.images.length = m := ⟨_, rfl⟩
    rw [hn] at c7 hd1
    rw [hm] at c8
    have HN := Lib.hid (And.intro hn hm)
    have hA : decide ((j : Int) < 0) = false := decide_eq_false (by omega)
    have hB : decide ((m : Int) ≤ (j : Int)) = false := decide_eq_false (by omega)
    have hB2 : decide (m ≤ j) = false := decide_eq_false (by omega)
    by_cases h1 : S.state (k : Int) = 1
    · rw [if_pos h1] at hkd
      rw [hkd]
      rw [h1] at cs HST
      clear hs ho hwf hS hn hm hkd h0 h1 e0 hi hj hR2 hqj
      go_enter Tryz.func45, Tryz.ntmps45
      go_wp2_with (go_at_call 53; refine HST.out.mono ?_; rintro e w1 ⟨rfl, rfl⟩)
      go_ret
      exact ⟨rfl, Same.refl w, emp, by rw [emp_star]; exact HS.out⟩
    · rw [if_neg h1] at hkd
      rw [hkd]
      have e1 : (S.state (k : Int) == 1) = false := by simp [h1]
      have HWF := Lib.hid hwf
      have HJ := Lib.hid hj
      have HR2 := Lib.hid hR2
      have HQJ := Lib.hid hqj
      have HO := Lib.hid (And.intro ho hs)
      generalize S.state (k : Int) = st at cs HST e0 e1
      clear hs ho hwf hS hn hm hkd h0 h1 hR2 hqj
      go_enter Tryz.func45, Tryz.ntmps45
      go_upto_region 7 with (go_at_call 53; refine HST.out.mono ?_; rintro e w1 ⟨rfl, rfl⟩)
      obtain ⟨g, capb, rfl, c6, cq, -⟩ := rsh_bays HO.out.1 HO.out.2
      rw [HN.out.1] at c6
      have hk0 : (0 : Int) ≤ (k : Int) := by omega
      have hj0 : (0 : Int) ≤ (j : Int) := by omega
      have hjm : (j : Int) < (m : Int) := by have := HJ.out; have := HN.out.2; omega
      have HQ := Lib.hid (And.intro ((Same.refl w).drew) (HO.out.2.drew))
      clear cs c7 cq HST hA hB hB2 hi hj
      have hS0 : w.drew.cell? ⟨p, 6, none⟩ = some (.slice (some ⟨g, 0, none⟩) n capb) ∧ w.drew.cell? ⟨p, 8, none⟩ = some (.slice (some ⟨gi, 0, none⟩) m capi) ∧ w.drew.cell? ⟨gi, j, none⟩ = some (.pointer (some ⟨qj, 0, none⟩)) := ⟨c6, c8, ci⟩
      refine reg_begin (fun w' => w'.cell? ⟨p, 6, none⟩ = some (.slice (some ⟨g, 0, none⟩) n capb) ∧ w'.cell? ⟨p, 8, none⟩ = some (.slice (some ⟨gi, 0, none⟩) m capi) ∧ w'.cell? ⟨gi, j, none⟩ = some (.pointer (some ⟨qj, 0, none⟩))) (by kernel_rfl) ?_
      clear c6 c8 ci
      generalize w.drew = W0 at hS0 HQ ⊢
      (apply reg_take 0 rfl rfl (by decide +kernel) rfl); (rintro w' ⟨h1, h2, h3⟩; go_simp; rfl); exact hS0; simp only [List.setIfInBounds_toArray, List.set_cons_succ, List.set_cons_zero]
      (apply reg_take 1 rfl rfl (by decide +kernel) rfl); (rintro w' ⟨h1, h2, h3⟩; go_simp; rfl); exact hS0; simp only [List.setIfInBounds_toArray, List.set_cons_succ, List.set_cons_zero]
      (apply reg_take 2 rfl rfl (by decide +kernel) rfl); (rintro w' ⟨h1, h2, h3⟩; go_simp; rfl); exact hS0; simp only [List.setIfInBounds_toArray, List.set_cons_succ, List.set_cons_zero]
      (apply reg_take 3 rfl rfl (by decide +kernel) rfl); (rintro w' ⟨h1, h2, h3⟩; go_simp; rfl); exact hS0; simp only [List.setIfInBounds_toArray, List.set_cons_succ, List.set_cons_zero]
      (apply reg_take 4 rfl rfl (by decide +kernel) rfl); (rintro w' ⟨h1, h2, h3⟩; go_simp; rfl); exact hS0; simp only [List.setIfInBounds_toArray, List.set_cons_succ, List.set_cons_zero]
      (apply reg_take 5 rfl rfl (by decide +kernel) rfl); (rintro w' ⟨h1, h2, h3⟩; go_simp; rfl); exact hS0; simp only [List.setIfInBounds_toArray, List.set_cons_succ, List.set_cons_zero]
      (apply reg_take 6 rfl rfl (by decide +kernel) rfl); (rintro w' ⟨h1, h2, h3⟩; go_simp; rfl); exact hS0; simp only [List.setIfInBounds_toArray, List.set_cons_succ, List.set_cons_zero]
      (apply reg_take 7 rfl rfl (by decide +kernel) rfl); (rintro w' ⟨h1, h2, h3⟩; go_simp; rfl); exact hS0; simp only [List.setIfInBounds_toArray, List.set_cons_succ, List.set_cons_zero]
      (apply reg_take 8 rfl rfl (by decide +kernel) rfl); (rintro w' ⟨h1, h2, h3⟩; go_simp; rfl); exact hS0; simp only [List.setIfInBounds_toArray, List.set_cons_succ, List.set_cons_zero]
      (apply reg_take 9 rfl rfl (by decide +kernel) rfl); (rintro w' ⟨h1, h2, h3⟩; go_simp; rfl); exact hS0; simp only [List.setIfInBounds_toArray, List.set_cons_succ, List.set_cons_zero]
      (apply reg_take 10 rfl rfl (by decide +kernel) rfl); (rintro w' ⟨h1, h2, h3⟩; go_simp; rfl); exact hS0; simp only [List.setIfInBounds_toArray, List.set_cons_succ, List.set_cons_zero]
      (apply reg_take 11 rfl rfl (by decide +kernel) rfl); (rintro w' ⟨h1, h2, h3⟩; go_simp; rfl); exact hS0; simp only [List.setIfInBounds_toArray, List.set_cons_succ, List.set_cons_zero]
      refine reg_call 12 rfl rfl (by decide +kernel) rfl (f := 25) (args := #[.pointer (some ⟨qj, 0, none⟩)]) (R := fun v w' => ∃ q', v = .pointer (some ⟨q', 0, none⟩) ∧ Hid (Same w w' ∧ Sat w' (rshO p S (.slice (some ⟨g, 0, none⟩) S.bays.length capb) (.slice (some ⟨gs, 0, none⟩) S.bays.length caps) (.slice (some ⟨gi, 0, none⟩) S.images.length capi) ps qs q (S.disk k) R (refD RT q' (S.images.getD j ShelfM.d0) * F)))) (by kernel_rfl)
        ((rclone16_any qj (S.images.getD j ShelfM.d0) (pts p (.cells (rsC S.cfg (.slice (some ⟨g, 0, none⟩) S.bays.length capb) (.slice (some ⟨gs, 0, none⟩) S.bays.length caps) (.slice (some ⟨gi, 0, none⟩) S.images.length capi) (!S.off) S.rleft) TRsh (0, 0)) * (ownAt TRp 1 (.slice (some ⟨g, 0, none⟩) S.bays.length capb) S.bays.length (ps.map ptrV) * (ownAt 3 1 (.slice (some ⟨gs, 0, none⟩) S.bays.length caps) S.bays.length (S.bays.map stV) * (ownAt TRp 1 (.slice (some ⟨gi, 0, none⟩) S.images.length capi) S.images.length (qs.map ptrV) *
          (refD RT q (S.disk k) * (R * (R2 * F))))))) W0 (HQ.out.2.perm (by unfold rshO; rw [HR2.out]; ac_rfl))).mono fun e w' h => by
          obtain ⟨q', rfl, hX⟩ := h
          obtain ⟨h1, h2⟩ := hX.out
          exact ⟨_, rfl, q', rfl, HQ.out.1.trans h1, h2.perm (by unfold rshO; rw [HR2.out]; ac_rfl)⟩) ?_
      rintro _ w3 ⟨q', rfl, h3⟩
      obtain ⟨g', capb', eg, hc3, hq3, hf3⟩ := rsh_bays HO.out.1 h3.out.2
      simp only [Value.slice.injEq, Option.some.injEq, Addr.mk.injEq, and_true, true_and] at eg
      obtain ⟨rfl, rfl⟩ := eg
      obtain ⟨gi', capi', qj', R2', ei, hc8, hci, -, hqj'⟩ := rsh_image HO.out.1.li h3.out.2 HJ.out
      have hS3 : w3.cell? ⟨p, 6, none⟩ = some (.slice (some ⟨g, 0, none⟩) n capb) ∧ w3.cell? ⟨p, 8, none⟩ = some (.slice (some ⟨gi, 0, none⟩) m capi) ∧ w3.cell? ⟨gi, j, none⟩ = some (.pointer (some ⟨qj, 0, none⟩)) := by
        rw [HN.out.1] at hc3
        rw [HN.out.2] at hc8
        simp only [Value.slice.injEq, Option.some.injEq, Addr.mk.injEq, and_true, true_and] at ei
        obtain ⟨rfl, rfl⟩ := ei
        have e := HQJ.out.symm.trans hqj'
        obtain rfl := Option.some.inj e
        exact ⟨hc3, hc8, hci⟩
      refine ⟨hS3, ?_⟩
      simp only [List.setIfInBounds_toArray, List.set_cons_succ, List.set_cons_zero]
      obtain ⟨ip, hip, hip2⟩ := Option.map_eq_some_iff.1 (show (Tryz.prog.info? TRp).map (·.size) = some 1 by kernel_rfl)
      (apply reg_take 13 rfl rfl (by decide +kernel) rfl); (rintro w' ⟨h1, h2, h3⟩; go_simp; rfl); exact hS3; simp only [List.setIfInBounds_toArray, List.set_cons_succ, List.set_cons_zero]
      refine reg_do_last 14 (w3.setCell ⟨g, k, none⟩ (.pointer (some ⟨q', 0, none⟩))) rfl rfl (by decide +kernel) rfl (exec_store_cell rfl rfl rfl hip hip2 rfl hq3 hf3) ?_
      have h3' := h3.out.2
      rw [HN.out.1] at h3'
      obtain ⟨d7, ds, df⟩ := rsh_half HO.out.1 q' HN.out.1 h3'
      unfold ptrV at d7 ds df
      have hsm4 := Lib.hid (h3.out.1.setCell ⟨g, k, none⟩ (.pointer (some ⟨q', 0, none⟩)))
      have hfin := Lib.hid (rsh_swap HO.out.1 q' (S.images.getD j ShelfM.d0) 1 HN.out.1 (HWF.out.setBay _ ⟨.inl rfl, fun _ => HWF.out.images _ (by rw [List.getD_eq_getElem?_getD, List.getElem?_eq_getElem HJ.out]; exact List.getElem_mem _)⟩) h3')
      unfold ptrV at hfin
      clear h3 h3' hc3 hq3 hf3 hip hip2 HQ hS0 hS3 hc8 hci ei hqj'
      generalize w3.setCell ⟨g, k, none⟩ (.pointer (some ⟨q', 0, none⟩)) = W4 at d7 ds df hsm4 hfin ⊢
      go_wp2
      go_ret
      exact ⟨rfl, hsm4.out.setCell _ _, _, hfin.out⟩
end Go.Proofs.YtogmkbhbmmgidaaGreat
end
