import Derived.Test.YtmcclbiaoeilkaaGreatP30
/- Part 31 of a proof; the last part says what is proved. -/
namespace Go.Proofs.YtmcclbiaoeilkaaGreat
open Go.RowKit Go.Sl Go.ChangeMaps
set_option linter.unusedSimpArgs false in
set_option maxHeartbeats 2000000 in
set_option maxRecDepth 20000 in
theorem label15_any (s : List UInt8) (hs : s.length = 64) (F : HProp) (w : World) (hF : Sat w F) :
    Calls Tryz.prog 82 #[.string (strB s)] w fun e w' => e = .returned (.tuple #[.agg (plA (labP s)), .agg (genA (labG s)), .int .i64 (labE s)]) ∧ Hid (Same w w' ∧ Sat w' F) := by
  have hsz : (strB s).size = 64 := by rw [strB_size, hs]
  have H1 := Lib.hid (And.intro (((Same.refl w).alloc (.cells zPl TPl)).alloc (.cells zGen TGen)) (((hF.alloc (.cells zPl TPl)).alloc (.cells zGen TGen)).perm (show _ = pts w.heap.size (.cells zPl TPl (0, 0)) * (pts (w.alloc (.cells zPl TPl)).heap.size (.cells zGen TGen (0, 0)) * F) from by ac_rfl)))
  rw [World.size_alloc] at H1
  have HS := Lib.hid hs
  clear hF hs
  go_enter Tryz.func82, Tryz.ntmps82
  go_upto_region 3 with (first
    | ((with_reducible (refine wpList_alloc_zero ?_ TPl ?_ _ (zeroPl _) ?_)); rfl; rfl)
    | ((with_reducible (refine wpList_alloc_zero ?_ TGen ?_ _ (zeroGen _) ?_)); rfl; rfl))
  generalize (w.alloc (.cells zPl TPl)).alloc (.cells zGen TGen) = w1 at H1 ⊢
  generalize w.heap.size = B at H1 ⊢
  refine reg_begin (fun _ => True) (by kernel_rfl) ?_
  obtain ⟨c4, hc4⟩ : ∃ c, s.getD 4 0 = c := ⟨_, rfl⟩
  obtain ⟨c5, hc5⟩ : ∃ c, s.getD 5 0 = c := ⟨_, rfl⟩
  have HA := Lib.hid (show placeAt s = ⟨(c5.toNat : Int), (c4.toNat : Int), (getM (subL s 6 8) : Int)⟩ by rw [← hc4, ← hc5]; rfl)
  have HG := Lib.hid (show genAt s 8 = ⟨(getM (subL s 8 12) : Int), (getM (subL s 12 16) : Int)⟩ from rfl)
  have X4 := Lib.hid hc4
  have X5 := Lib.hid hc5
  have k4 : IntKind.i64.wrap (c4.toNat : Int) = (c4.toNat : Int) := IntWalk.i64_in _ (by have := c4.toNat_lt; omega)
  have k5 : IntKind.i64.wrap (c5.toNat : Int) = (c5.toNat : Int) := IntWalk.i64_in _ (by have := c5.toNat_lt; omega)
  clear hc4 hc5
  (apply reg_take 0 rfl rfl (by decide +kernel) rfl); (intro w' _; go_simp; rfl); exact trivial; simp only [List.setIfInBounds_toArray, List.set_cons_succ, List.set_cons_zero]
  refine reg_take 1 (v := .int .u8 (c4.toNat : Int)) rfl rfl (by decide +kernel) rfl (fun w' _ => by rw [← X4.out]; exact exec_str_index (i := 4) rfl Tryz.underlying9 rfl rfl (by rw [HS.out]; decide)) trivial ?_; simp only [List.setIfInBounds_toArray, List.set_cons_succ, List.set_cons_zero]
  (apply reg_take 2 rfl rfl (by decide +kernel) rfl); (intro w' _; go_simp; rfl); exact trivial; simp only [List.setIfInBounds_toArray, List.set_cons_succ, List.set_cons_zero]
  (apply reg_take 3 rfl rfl (by decide +kernel) rfl); (intro w' _; go_simp; rfl); exact trivial; simp only [List.setIfInBounds_toArray, List.set_cons_succ, List.set_cons_zero]
  refine reg_take 4 (v := .int .u8 (c5.toNat : Int)) rfl rfl (by decide +kernel) rfl (fun w' _ => by rw [← X5.out]; exact exec_str_index (i := 5) rfl Tryz.underlying9 rfl rfl (by rw [HS.out]; decide)) trivial ?_; simp only [List.setIfInBounds_toArray, List.set_cons_succ, List.set_cons_zero]
  (apply reg_take 5 rfl rfl (by decide +kernel) rfl); (intro w' _; go_simp; rfl); exact trivial; simp only [List.setIfInBounds_toArray, List.set_cons_succ, List.set_cons_zero]
  (apply reg_take 6 rfl rfl (by decide +kernel) rfl); (intro w' _; go_simp; rfl); exact trivial; simp only [List.setIfInBounds_toArray, List.set_cons_succ, List.set_cons_zero]
  refine reg_take 7 (v := .string (strB (subL s 6 8))) rfl rfl (by decide +kernel) rfl (fun w' _ => exec_str_slice (i := 6) (j := 8) rfl Tryz.underlying9 rfl rfl rfl (by decide) (by rw [HS.out]; decide)) trivial ?_; simp only [List.setIfInBounds_toArray, List.set_cons_succ, List.set_cons_zero]
  refine reg_takeq 8 (f := 128) (args := #[.string (strB (subL s 6 8))]) (v := .int .i64 (getM (subL s 6 8) : Int)) rfl rfl (by decide +kernel) rfl (fun w' => by kernel_rfl) (fun w' _ => read15_any _ (by simp [subL]; omega) w') trivial ?_
  simp only [List.setIfInBounds_toArray, List.set_cons_succ, List.set_cons_zero]
  (apply reg_take 9 rfl rfl (by decide +kernel) rfl); (intro w' _; go_simp; rfl); exact trivial; simp only [List.setIfInBounds_toArray, List.set_cons_succ, List.set_cons_zero]
  refine reg_run 10 (.pointer (some ⟨w1.heap.size, 0, none⟩)) (w1.drew.alloc (.cells zPl TPl)) rfl rfl (by decide +kernel) rfl (exec_alloc_zero rfl _ (zeroPl _)) (trivial) ?_; simp only [List.setIfInBounds_toArray, List.set_cons_succ, List.set_cons_zero]
  have hn : ∀ A G : Int, True := fun _ _ => trivial
  refine reg_do_last 11 (w1.drew.alloc (.cells #[.int .i64 (c5.toNat : Int), .int .i64 (c4.toNat : Int), .int .i64 (getM (subL s 6 8) : Int)] TPl)) rfl rfl (by decide +kernel) rfl (exec_store_fresh rfl TPl _ _ rfl rfl (infoPl rfl) rfl (by simp [Value.oneCell'])) ?_
  replace H1 := Lib.hid (And.intro (H1.out.1.drew.alloc (.cells #[.int .i64 (c5.toNat : Int), .int .i64 (c4.toNat : Int), .int .i64 (getM (subL s 6 8) : Int)] TPl)) (H1.out.2.drew.alloc (.cells #[.int .i64 (c5.toNat : Int), .int .i64 (c4.toNat : Int), .int .i64 (getM (subL s 6 8) : Int)] TPl)))
  generalize w1.drew.alloc (.cells #[.int .i64 (c5.toNat : Int), .int .i64 (c4.toNat : Int), .int .i64 (getM (subL s 6 8) : Int)] TPl) = w2 at H1 ⊢
  rw [show w1.drew.heap.size = w1.heap.size from rfl] at H1
  generalize w1.heap.size = C at H1 ⊢
  go_upto_region 4 with (fail)
  clear k4 k5 hn
  refine reg_begin (fun _ => True) (by kernel_rfl) ?_
  (apply reg_take 0 rfl rfl (by decide +kernel) rfl); (intro w' _; go_simp; rfl); exact trivial; simp only [List.setIfInBounds_toArray, List.set_cons_succ, List.set_cons_zero]
  refine reg_take 1 (v := .string (strB (subL s 8 12))) rfl rfl (by decide +kernel) rfl (fun w' _ => exec_str_slice (i := 8) (j := 12) rfl Tryz.underlying9 rfl rfl rfl (by decide) (by rw [HS.out]; decide)) trivial ?_; simp only [List.setIfInBounds_toArray, List.set_cons_succ, List.set_cons_zero]
  refine reg_takeq 2 (f := 128) (args := #[.string (strB (subL s 8 12))]) (v := .int .i64 (getM (subL s 8 12) : Int)) rfl rfl (by decide +kernel) rfl (fun w' => by kernel_rfl) (fun w' _ => read15_any _ (by simp [subL]; omega) w') trivial ?_
  simp only [List.setIfInBounds_toArray, List.set_cons_succ, List.set_cons_zero]
  (apply reg_take 3 rfl rfl (by decide +kernel) rfl); (intro w' _; go_simp; rfl); exact trivial; simp only [List.setIfInBounds_toArray, List.set_cons_succ, List.set_cons_zero]
  refine reg_take 4 (v := .string (strB (subL s 12 16))) rfl rfl (by decide +kernel) rfl (fun w' _ => exec_str_slice (i := 12) (j := 16) rfl Tryz.underlying9 rfl rfl rfl (by decide) (by rw [HS.out]; decide)) trivial ?_; simp only [List.setIfInBounds_toArray, List.set_cons_succ, List.set_cons_zero]
  refine reg_takeq 5 (f := 128) (args := #[.string (strB (subL s 12 16))]) (v := .int .i64 (getM (subL s 12 16) : Int)) rfl rfl (by decide +kernel) rfl (fun w' => by kernel_rfl) (fun w' _ => read15_any _ (by simp [subL]; omega) w') trivial ?_
  simp only [List.setIfInBounds_toArray, List.set_cons_succ, List.set_cons_zero]
  (apply reg_take 6 rfl rfl (by decide +kernel) rfl); (intro w' _; go_simp; rfl); exact trivial; simp only [List.setIfInBounds_toArray, List.set_cons_succ, List.set_cons_zero]
  refine reg_run 7 (.pointer (some ⟨w2.heap.size, 0, none⟩)) (w2.drew.alloc (.cells zGen TGen)) rfl rfl (by decide +kernel) rfl (exec_alloc_zero rfl _ (zeroGen _)) (trivial) ?_; simp only [List.setIfInBounds_toArray, List.set_cons_succ, List.set_cons_zero]
  refine reg_do_last 8 (w2.drew.alloc (.cells #[.int .i64 (getM (subL s 8 12) : Int), .int .i64 (getM (subL s 12 16) : Int)] TGen)) rfl rfl (by decide +kernel) rfl (exec_store_fresh rfl TGen _ _ rfl rfl (infoGen rfl) rfl (by simp [Value.oneCell'])) ?_
  replace H1 := Lib.hid (And.intro (H1.out.1.drew.alloc (.cells #[.int .i64 (getM (subL s 8 12) : Int), .int .i64 (getM (subL s 12 16) : Int)] TGen)) (H1.out.2.drew.alloc (.cells #[.int .i64 (getM (subL s 8 12) : Int), .int .i64 (getM (subL s 12 16) : Int)] TGen)))
  generalize w2.drew.alloc (.cells #[.int .i64 (getM (subL s 8 12) : Int), .int .i64 (getM (subL s 12 16) : Int)] TGen) = w3 at H1 ⊢
  rw [show w2.drew.heap.size = w2.heap.size from rfl] at H1
  generalize w2.heap.size = D at H1 ⊢
  have hlab : labelOK s = (decide (getM (subL s 0 4) = (crcM (s.drop 4)).toNat) && placeOK (placeAt s) && genOK (genAt s 8) && decide (subL s 8 16 = s.drop 56)) := rfl
  rw [HA.out, HG.out] at hlab
  have hva := fun W => valid15_any ⟨(c5.toNat : Int), (c4.toNat : Int), (getM (subL s 6 8) : Int)⟩ W
  have hvg := fun W => right15_any ⟨(getM (subL s 8 12) : Int), (getM (subL s 12 16) : Int)⟩ W
  generalize placeOK ⟨(c5.toNat : Int), (c4.toNat : Int), (getM (subL s 6 8) : Int)⟩ = vb at hlab hva
  generalize genOK ⟨(getM (subL s 8 12) : Int), (getM (subL s 12 16) : Int)⟩ = gb at hlab hvg
  obtain ⟨q0, q1, q2, q3, q4⟩ := lab_cells H1.out.2
  go_upto_region 7 with (first
    | (go_at_call 129; refine (hva _).mono ?_; rintro e w4 ⟨rfl, hb⟩; replace H1 := Lib.hid (And.intro (H1.out.1.below hb) (H1.out.2.below hb)); clear hb q0 q1 q2 q3 q4; obtain ⟨q0, q1, q2, q3, q4⟩ := lab_cells H1.out.2)
    | (go_at_call 130; refine (hvg _).mono ?_; rintro e w5 ⟨rfl, hb⟩; replace H1 := Lib.hid (And.intro (H1.out.1.below hb) (H1.out.2.below hb)); clear hb q0 q1 q2 q3 q4))
  obtain ⟨row, fr, cap, hrun, hrow⟩ := str_bytes (s.drop 4) w5.drew
  have hSr := H1.out.2.drew.drew.alloc (.cells row TByte fr)
  obtain ⟨g, hg⟩ : ∃ g, w5.heap.size = g := ⟨_, rfl⟩
  rw [show w5.drew.drew.heap.size = g from hg] at hSr
  rw [show w5.drew.heap.size = g from hg] at hrun
  have hof : ∀ (W : World) (X : HProp), Sat W (pts g (.cells row TByte fr) * X) → Calls Tryz.prog 131 #[.slice (some ⟨g, 0, none⟩) (s.drop 4).length cap] W fun e w' => e = .returned (u32V (crcM (s.drop 4))) ∧ W = w' := fun W X h =>
    r3of_any (.slice (some ⟨g, 0, none⟩) (s.drop 4).length cap) (s.drop 4) W ⟨_, _, rfl, fun _ => ⟨g, 0, rfl, fun j x hx => by
      rw [Nat.zero_add, cells_at h.block]
      exact hrow j _ (by rw [secL, List.getElem?_map, hx]; rfl)⟩⟩ (by rw [List.length_drop, HS.out]; decide)
  have hcl := (crcM (s.drop 4)).toNat_lt
  unfold u32V at hof
  generalize (crcM (s.drop 4)).toNat = c at hof hlab hcl
  have HOF := Lib.hid hof
  have HRUN := Lib.hid hrun
  have HSR := Lib.hid hSr
  have kc : IntKind.i64.wrap (c : Int) = (c : Int) := IntWalk.i64_in _ (by omega)
  have HL4 := Lib.hid (show getM (subL s 0 4) = getM (s.take 4) by simp [subL])
  have hS0 := lab_cells H1.out.2.drew
  have hS5 := lab_cells HSR.out.right
  clear hSr hrun hof hrow hg hcl hsz hva hvg
  refine reg_begin (fun w' => w'.cell? ⟨C, 0, none⟩ = some (.int .i64 (c5.toNat : Int)) ∧ w'.cell? ⟨C, 1, none⟩ = some (.int .i64 (c4.toNat : Int)) ∧ w'.cell? ⟨C, 2, none⟩ = some (.int .i64 (getM (subL s 6 8) : Int)) ∧ w'.cell? ⟨D, 0, none⟩ = some (.int .i64 (getM (subL s 8 12) : Int)) ∧ w'.cell? ⟨D, 1, none⟩ = some (.int .i64 (getM (subL s 12 16) : Int))) (by kernel_rfl) ?_
  (apply reg_take 0 rfl rfl (by decide +kernel) rfl); (intro w' _; go_simp; rfl); exact hS0; simp only [List.setIfInBounds_toArray, List.set_cons_succ, List.set_cons_zero]
  refine reg_take 1 (v := .string (strB (s.take 4))) rfl rfl (by decide +kernel) rfl (fun w' _ => exec_str_to (j := 4) rfl Tryz.underlying9 rfl rfl (by rw [HS.out]; decide)) hS0 ?_; simp only [List.setIfInBounds_toArray, List.set_cons_succ, List.set_cons_zero]
  refine reg_takeq 2 (f := 128) (args := #[.string (strB (s.take 4))]) (v := .int .i64 (getM (s.take 4) : Int)) rfl rfl (by decide +kernel) rfl (fun w' => by kernel_rfl) (fun w' _ => read15_any _ (by simp; omega) w') hS0 ?_
  simp only [List.setIfInBounds_toArray, List.set_cons_succ, List.set_cons_zero]
  (apply reg_take 3 rfl rfl (by decide +kernel) rfl); (intro w' _; go_simp; rfl); exact hS0; simp only [List.setIfInBounds_toArray, List.set_cons_succ, List.set_cons_zero]
  refine reg_take 4 (v := .string (strB (s.drop 4))) rfl rfl (by decide +kernel) rfl (fun w' _ => exec_str_from (i := 4) rfl Tryz.underlying9 rfl rfl (by rw [HS.out]; decide)) hS0 ?_; simp only [List.setIfInBounds_toArray, List.set_cons_succ, List.set_cons_zero]
  refine reg_run 5 (.slice (some ⟨g, 0, none⟩) (s.drop 4).length cap) (w5.drew.drew.alloc (.cells row TByte fr)) rfl rfl (by decide +kernel) rfl (exec_convert rfl rfl HRUN.out) (hS5) ?_; simp only [List.setIfInBounds_toArray, List.set_cons_succ, List.set_cons_zero]
  have H3 := Lib.hid (And.intro (H1.out.1.drew.drew.alloc (.cells row TByte fr)) HSR.out)
  clear HSR HRUN H1
  generalize w5.drew.drew.alloc (.cells row TByte fr) = w6 at H3 hS5 ⊢
  refine reg_call 6 rfl rfl (by decide +kernel) rfl (f := 131) (args := #[.slice (some ⟨g, 0, none⟩) (s.drop 4).length cap]) (R := fun v w' => v = .int .u32 (c : Int) ∧ w6 = w') (by kernel_rfl) ((HOF.out w6 _ H3.out.2).mono fun e w' h => ⟨_, h.1, rfl, h.2⟩) ?_
  rintro _ w7 ⟨rfl, rfl⟩
  have H1 := Lib.hid (And.intro H3.out.1 H3.out.2.right)
  clear H3 hS0 hS5
  have hS0 := lab_cells H1.out.2
  refine ⟨hS0, ?_⟩
  simp only [List.setIfInBounds_toArray, List.set_cons_succ, List.set_cons_zero]
  (apply reg_take 7 rfl rfl (by decide +kernel) rfl); (intro w' _; go_simp; rfl); exact hS0; simp only [List.setIfInBounds_toArray, List.set_cons_succ, List.set_cons_zero]
  rw [HL4.out] at hlab
  have HLAB := Lib.hid hlab
  clear hlab
  cases hb1 : decide (getM (s.take 4) = c)
  · have hne : getM (s.take 4) ≠ c := by simpa using hb1
    refine reg_take 8 (v := .bool true) rfl rfl (by decide +kernel) rfl (fun w' _ => exec_binop rfl rfl rfl rfl (by simp [go_sem]; omega)) hS0 ?_; simp only [List.setIfInBounds_toArray, List.set_cons_succ, List.set_cons_zero]
    (apply reg_take 9 rfl rfl (by decide +kernel) rfl); (rintro w' ⟨h1, h2, h3, h4, h5⟩; go_simp; rfl); exact hS0; simp only [List.setIfInBounds_toArray, List.set_cons_succ, List.set_cons_zero]
    (apply reg_skip 10 rfl rfl (by decide +kernel) rfl); exact hS0; simp only [List.setIfInBounds_toArray, List.set_cons_succ, List.set_cons_zero]
    (apply reg_skip 11 rfl rfl (by decide +kernel) rfl); exact hS0; simp only [List.setIfInBounds_toArray, List.set_cons_succ, List.set_cons_zero]
    (apply reg_take 12 rfl rfl (by decide +kernel) rfl); (rintro w' ⟨h1, h2, h3, h4, h5⟩; go_simp; rfl); exact hS0; simp only [List.setIfInBounds_toArray, List.set_cons_succ, List.set_cons_zero]
    (apply reg_take 13 rfl rfl (by decide +kernel) rfl); (rintro w' ⟨h1, h2, h3, h4, h5⟩; go_simp; rfl); exact hS0; simp only [List.setIfInBounds_toArray, List.set_cons_succ, List.set_cons_zero]
    (apply reg_skip 14 rfl rfl (by decide +kernel) rfl); exact hS0; simp only [List.setIfInBounds_toArray, List.set_cons_succ, List.set_cons_zero]
    (apply reg_skip 15 rfl rfl (by decide +kernel) rfl); exact hS0; simp only [List.setIfInBounds_toArray, List.set_cons_succ, List.set_cons_zero]
    (apply reg_take 16 rfl rfl (by decide +kernel) rfl); (rintro w' ⟨h1, h2, h3, h4, h5⟩; go_simp; rfl); exact hS0; simp only [List.setIfInBounds_toArray, List.set_cons_succ, List.set_cons_zero]
    (apply reg_take 17 rfl rfl (by decide +kernel) rfl); (rintro w' ⟨h1, h2, h3, h4, h5⟩; go_simp; rfl); exact hS0; simp only [List.setIfInBounds_toArray, List.set_cons_succ, List.set_cons_zero]
    (apply reg_skip 18 rfl rfl (by decide +kernel) rfl); exact hS0; simp only [List.setIfInBounds_toArray, List.set_cons_succ, List.set_cons_zero]
    (apply reg_skip 19 rfl rfl (by decide +kernel) rfl); exact hS0; simp only [List.setIfInBounds_toArray, List.set_cons_succ, List.set_cons_zero]
    (apply reg_skip 20 rfl rfl (by decide +kernel) rfl); exact hS0; simp only [List.setIfInBounds_toArray, List.set_cons_succ, List.set_cons_zero]
    (apply reg_skip 21 rfl rfl (by decide +kernel) rfl); exact hS0; simp only [List.setIfInBounds_toArray, List.set_cons_succ, List.set_cons_zero]
    (apply reg_skip 22 rfl rfl (by decide +kernel) rfl); exact hS0; simp only [List.setIfInBounds_toArray, List.set_cons_succ, List.set_cons_zero]
    (apply reg_take 23 rfl rfl (by decide +kernel) rfl); (rintro w' ⟨h1, h2, h3, h4, h5⟩; go_simp; rfl); exact hS0; simp only [List.setIfInBounds_toArray, List.set_cons_succ, List.set_cons_zero]
    refine reg_done (by decide +kernel) ?_
    have HP := Lib.hid (show labP s = ⟨0, 0, 0⟩ ∧ labG s = g0 ∧ labE s = 7 from by have e := HLAB.out; simp only [hb1, Bool.false_and, Bool.true_and, Bool.and_false] at e; unfold labP labG labE; rw [e]; exact ⟨rfl, rfl, rfl⟩)
    replace H1 := Lib.hid (And.intro H1.out.1 (H1.out.2.perm (show _ = pts B (.cells zPl TPl (0, 0)) * (pts (B + 1) (.cells zGen TGen (0, 0)) * (pts D (.cells #[.int .i64 (getM (subL s 8 12) : Int), .int .i64 (getM (subL s 12 16) : Int)] TGen (0, 0)) * (pts C (.cells #[.int .i64 (c5.toNat : Int), .int .i64 (c4.toNat : Int), .int .i64 (getM (subL s 6 8) : Int)] TPl (0, 0)) * F))) from by ac_rfl)))
    clear hS0 kc hb1 hne
    obtain ⟨⟨b0, b1, b2, b3, b4'⟩, f0, f1, f2, f3, f4⟩ := bad_cells H1.out.2
    go_wp2
    replace H1 := Lib.hid (bad_store H1.out.1 H1.out.2)
    refine bodyPost_ret (v := .tuple #[.agg zPl, .agg zGen, .int .i64 7]) (results3 Tryz.results82 (ResIs.row rfl H1.out.2.block Tryz.underlying37 rfl (infoPl rfl)) (ResIs.row rfl H1.out.2.right.block Tryz.underlying42 rfl (infoGen rfl)) (.tmp rfl)) rfl ?_
    exact ⟨by rw [HP.out.1, HP.out.2.1, HP.out.2.2]; rfl, H1.out.1, H1.out.2.right.right.right.right⟩
  have hne : getM (s.take 4) = c := by simpa using hb1
  cases vb
  · skip
    refine reg_take 8 (v := .bool false) rfl rfl (by decide +kernel) rfl (fun w' _ => exec_binop rfl rfl rfl rfl (by simp [go_sem, hne])) hS0 ?_; simp only [List.setIfInBounds_toArray, List.set_cons_succ, List.set_cons_zero]
    (apply reg_take 9 rfl rfl (by decide +kernel) rfl); (rintro w' ⟨h1, h2, h3, h4, h5⟩; go_simp; rfl); exact hS0; simp only [List.setIfInBounds_toArray, List.set_cons_succ, List.set_cons_zero]
    (apply reg_take 10 rfl rfl (by decide +kernel) rfl); (rintro w' ⟨h1, h2, h3, h4, h5⟩; go_simp; rfl); exact hS0; simp only [List.setIfInBounds_toArray, List.set_cons_succ, List.set_cons_zero]
    (apply reg_take 11 rfl rfl (by decide +kernel) rfl); (rintro w' ⟨h1, h2, h3, h4, h5⟩; go_simp; rfl); exact hS0; simp only [List.setIfInBounds_toArray, List.set_cons_succ, List.set_cons_zero]
    (apply reg_take 12 rfl rfl (by decide +kernel) rfl); (rintro w' ⟨h1, h2, h3, h4, h5⟩; go_simp; rfl); exact hS0; simp only [List.setIfInBounds_toArray, List.set_cons_succ, List.set_cons_zero]
    (apply reg_take 13 rfl rfl (by decide +kernel) rfl); (rintro w' ⟨h1, h2, h3, h4, h5⟩; go_simp; rfl); exact hS0; simp only [List.setIfInBounds_toArray, List.set_cons_succ, List.set_cons_zero]
    (apply reg_skip 14 rfl rfl (by decide +kernel) rfl); exact hS0; simp only [List.setIfInBounds_toArray, List.set_cons_succ, List.set_cons_zero]
    (apply reg_skip 15 rfl rfl (by decide +kernel) rfl); exact hS0; simp only [List.setIfInBounds_toArray, List.set_cons_succ, List.set_cons_zero]
    (apply reg_take 16 rfl rfl (by decide +kernel) rfl); (rintro w' ⟨h1, h2, h3, h4, h5⟩; go_simp; rfl); exact hS0; simp only [List.setIfInBounds_toArray, List.set_cons_succ, List.set_cons_zero]
    (apply reg_take 17 rfl rfl (by decide +kernel) rfl); (rintro w' ⟨h1, h2, h3, h4, h5⟩; go_simp; rfl); exact hS0; simp only [List.setIfInBounds_toArray, List.set_cons_succ, List.set_cons_zero]
    (apply reg_skip 18 rfl rfl (by decide +kernel) rfl); exact hS0; simp only [List.setIfInBounds_toArray, List.set_cons_succ, List.set_cons_zero]
    (apply reg_skip 19 rfl rfl (by decide +kernel) rfl); exact hS0; simp only [List.setIfInBounds_toArray, List.set_cons_succ, List.set_cons_zero]
    (apply reg_skip 20 rfl rfl (by decide +kernel) rfl); exact hS0; simp only [List.setIfInBounds_toArray, List.set_cons_succ, List.set_cons_zero]
    (apply reg_skip 21 rfl rfl (by decide +kernel) rfl); exact hS0; simp only [List.setIfInBounds_toArray, List.set_cons_succ, List.set_cons_zero]
    (apply reg_skip 22 rfl rfl (by decide +kernel) rfl); exact hS0; simp only [List.setIfInBounds_toArray, List.set_cons_succ, List.set_cons_zero]
    (apply reg_take 23 rfl rfl (by decide +kernel) rfl); (rintro w' ⟨h1, h2, h3, h4, h5⟩; go_simp; rfl); exact hS0; simp only [List.setIfInBounds_toArray, List.set_cons_succ, List.set_cons_zero]
    refine reg_done (by decide +kernel) ?_
    have HP := Lib.hid (show labP s = ⟨0, 0, 0⟩ ∧ labG s = g0 ∧ labE s = 7 from by have e := HLAB.out; simp only [hb1, Bool.false_and, Bool.true_and, Bool.and_false] at e; unfold labP labG labE; rw [e]; exact ⟨rfl, rfl, rfl⟩)
    replace H1 := Lib.hid (And.intro H1.out.1 (H1.out.2.perm (show _ = pts B (.cells zPl TPl (0, 0)) * (pts (B + 1) (.cells zGen TGen (0, 0)) * (pts D (.cells #[.int .i64 (getM (subL s 8 12) : Int), .int .i64 (getM (subL s 12 16) : Int)] TGen (0, 0)) * (pts C (.cells #[.int .i64 (c5.toNat : Int), .int .i64 (c4.toNat : Int), .int .i64 (getM (subL s 6 8) : Int)] TPl (0, 0)) * F))) from by ac_rfl)))
    clear hS0 kc hb1 hne
    obtain ⟨⟨b0, b1, b2, b3, b4'⟩, f0, f1, f2, f3, f4⟩ := bad_cells H1.out.2
    go_wp2
    replace H1 := Lib.hid (bad_store H1.out.1 H1.out.2)
    refine bodyPost_ret (v := .tuple #[.agg zPl, .agg zGen, .int .i64 7]) (results3 Tryz.results82 (ResIs.row rfl H1.out.2.block Tryz.underlying37 rfl (infoPl rfl)) (ResIs.row rfl H1.out.2.right.block Tryz.underlying42 rfl (infoGen rfl)) (.tmp rfl)) rfl ?_
    exact ⟨by rw [HP.out.1, HP.out.2.1, HP.out.2.2]; rfl, H1.out.1, H1.out.2.right.right.right.right⟩
  cases gb
  · skip
    refine reg_take 8 (v := .bool false) rfl rfl (by decide +kernel) rfl (fun w' _ => exec_binop rfl rfl rfl rfl (by simp [go_sem, hne])) hS0 ?_; simp only [List.setIfInBounds_toArray, List.set_cons_succ, List.set_cons_zero]
    (apply reg_take 9 rfl rfl (by decide +kernel) rfl); (rintro w' ⟨h1, h2, h3, h4, h5⟩; go_simp; rfl); exact hS0; simp only [List.setIfInBounds_toArray, List.set_cons_succ, List.set_cons_zero]
    (apply reg_take 10 rfl rfl (by decide +kernel) rfl); (rintro w' ⟨h1, h2, h3, h4, h5⟩; go_simp; rfl); exact hS0; simp only [List.setIfInBounds_toArray, List.set_cons_succ, List.set_cons_zero]
    (apply reg_take 11 rfl rfl (by decide +kernel) rfl); (rintro w' ⟨h1, h2, h3, h4, h5⟩; go_simp; rfl); exact hS0; simp only [List.setIfInBounds_toArray, List.set_cons_succ, List.set_cons_zero]
    (apply reg_take 12 rfl rfl (by decide +kernel) rfl); (rintro w' ⟨h1, h2, h3, h4, h5⟩; go_simp; rfl); exact hS0; simp only [List.setIfInBounds_toArray, List.set_cons_succ, List.set_cons_zero]
    (apply reg_take 13 rfl rfl (by decide +kernel) rfl); (rintro w' ⟨h1, h2, h3, h4, h5⟩; go_simp; rfl); exact hS0; simp only [List.setIfInBounds_toArray, List.set_cons_succ, List.set_cons_zero]
    (apply reg_take 14 rfl rfl (by decide +kernel) rfl); (rintro w' ⟨h1, h2, h3, h4, h5⟩; go_simp; rfl); exact hS0; simp only [List.setIfInBounds_toArray, List.set_cons_succ, List.set_cons_zero]
    (apply reg_take 15 rfl rfl (by decide +kernel) rfl); (rintro w' ⟨h1, h2, h3, h4, h5⟩; go_simp; rfl); exact hS0; simp only [List.setIfInBounds_toArray, List.set_cons_succ, List.set_cons_zero]
    (apply reg_take 16 rfl rfl (by decide +kernel) rfl); (rintro w' ⟨h1, h2, h3, h4, h5⟩; go_simp; rfl); exact hS0; simp only [List.setIfInBounds_toArray, List.set_cons_succ, List.set_cons_zero]
    (apply reg_take 17 rfl rfl (by decide +kernel) rfl); (rintro w' ⟨h1, h2, h3, h4, h5⟩; go_simp; rfl); exact hS0; simp only [List.setIfInBounds_toArray, List.set_cons_succ, List.set_cons_zero]
    (apply reg_skip 18 rfl rfl (by decide +kernel) rfl); exact hS0; simp only [List.setIfInBounds_toArray, List.set_cons_succ, List.set_cons_zero]
    (apply reg_skip 19 rfl rfl (by decide +kernel) rfl); exact hS0; simp only [List.setIfInBounds_toArray, List.set_cons_succ, List.set_cons_zero]
    (apply reg_skip 20 rfl rfl (by decide +kernel) rfl); exact hS0; simp only [List.setIfInBounds_toArray, List.set_cons_succ, List.set_cons_zero]
    (apply reg_skip 21 rfl rfl (by decide +kernel) rfl); exact hS0; simp only [List.setIfInBounds_toArray, List.set_cons_succ, List.set_cons_zero]
    (apply reg_skip 22 rfl rfl (by decide +kernel) rfl); exact hS0; simp only [List.setIfInBounds_toArray, List.set_cons_succ, List.set_cons_zero]
    (apply reg_take 23 rfl rfl (by decide +kernel) rfl); (rintro w' ⟨h1, h2, h3, h4, h5⟩; go_simp; rfl); exact hS0; simp only [List.setIfInBounds_toArray, List.set_cons_succ, List.set_cons_zero]
    refine reg_done (by decide +kernel) ?_
    have HP := Lib.hid (show labP s = ⟨0, 0, 0⟩ ∧ labG s = g0 ∧ labE s = 7 from by have e := HLAB.out; simp only [hb1, Bool.false_and, Bool.true_and, Bool.and_false] at e; unfold labP labG labE; rw [e]; exact ⟨rfl, rfl, rfl⟩)
    replace H1 := Lib.hid (And.intro H1.out.1 (H1.out.2.perm (show _ = pts B (.cells zPl TPl (0, 0)) * (pts (B + 1) (.cells zGen TGen (0, 0)) * (pts D (.cells #[.int .i64 (getM (subL s 8 12) : Int), .int .i64 (getM (subL s 12 16) : Int)] TGen (0, 0)) * (pts C (.cells #[.int .i64 (c5.toNat : Int), .int .i64 (c4.toNat : Int), .int .i64 (getM (subL s 6 8) : Int)] TPl (0, 0)) * F))) from by ac_rfl)))
    clear hS0 kc hb1 hne
    obtain ⟨⟨b0, b1, b2, b3, b4'⟩, f0, f1, f2, f3, f4⟩ := bad_cells H1.out.2
    go_wp2
    replace H1 := Lib.hid (bad_store H1.out.1 H1.out.2)
    refine bodyPost_ret (v := .tuple #[.agg zPl, .agg zGen, .int .i64 7]) (results3 Tryz.results82 (ResIs.row rfl H1.out.2.block Tryz.underlying37 rfl (infoPl rfl)) (ResIs.row rfl H1.out.2.right.block Tryz.underlying42 rfl (infoGen rfl)) (.tmp rfl)) rfl ?_
    exact ⟨by rw [HP.out.1, HP.out.2.1, HP.out.2.2]; rfl, H1.out.1, H1.out.2.right.right.right.right⟩
  cases hb4 : decide (subL s 8 16 = s.drop 56)
  · have hnv := Lib.hid (show Value.bool true = Value.bool (!decide (subL s 8 16 = s.drop 56)) by rw [hb4]; rfl)
    refine reg_take 8 (v := .bool false) rfl rfl (by decide +kernel) rfl (fun w' _ => exec_binop rfl rfl rfl rfl (by simp [go_sem, hne])) hS0 ?_; simp only [List.setIfInBounds_toArray, List.set_cons_succ, List.set_cons_zero]
    (apply reg_take 9 rfl rfl (by decide +kernel) rfl); (rintro w' ⟨h1, h2, h3, h4, h5⟩; go_simp; rfl); exact hS0; simp only [List.setIfInBounds_toArray, List.set_cons_succ, List.set_cons_zero]
    (apply reg_take 10 rfl rfl (by decide +kernel) rfl); (rintro w' ⟨h1, h2, h3, h4, h5⟩; go_simp; rfl); exact hS0; simp only [List.setIfInBounds_toArray, List.set_cons_succ, List.set_cons_zero]
    (apply reg_take 11 rfl rfl (by decide +kernel) rfl); (rintro w' ⟨h1, h2, h3, h4, h5⟩; go_simp; rfl); exact hS0; simp only [List.setIfInBounds_toArray, List.set_cons_succ, List.set_cons_zero]
    (apply reg_take 12 rfl rfl (by decide +kernel) rfl); (rintro w' ⟨h1, h2, h3, h4, h5⟩; go_simp; rfl); exact hS0; simp only [List.setIfInBounds_toArray, List.set_cons_succ, List.set_cons_zero]
    (apply reg_take 13 rfl rfl (by decide +kernel) rfl); (rintro w' ⟨h1, h2, h3, h4, h5⟩; go_simp; rfl); exact hS0; simp only [List.setIfInBounds_toArray, List.set_cons_succ, List.set_cons_zero]
    (apply reg_take 14 rfl rfl (by decide +kernel) rfl); (rintro w' ⟨h1, h2, h3, h4, h5⟩; go_simp; rfl); exact hS0; simp only [List.setIfInBounds_toArray, List.set_cons_succ, List.set_cons_zero]
    (apply reg_take 15 rfl rfl (by decide +kernel) rfl); (rintro w' ⟨h1, h2, h3, h4, h5⟩; go_simp; rfl); exact hS0; simp only [List.setIfInBounds_toArray, List.set_cons_succ, List.set_cons_zero]
    (apply reg_take 16 rfl rfl (by decide +kernel) rfl); (rintro w' ⟨h1, h2, h3, h4, h5⟩; go_simp; rfl); exact hS0; simp only [List.setIfInBounds_toArray, List.set_cons_succ, List.set_cons_zero]
    (apply reg_take 17 rfl rfl (by decide +kernel) rfl); (rintro w' ⟨h1, h2, h3, h4, h5⟩; go_simp; rfl); exact hS0; simp only [List.setIfInBounds_toArray, List.set_cons_succ, List.set_cons_zero]
    (apply reg_take 18 rfl rfl (by decide +kernel) rfl); (rintro w' ⟨h1, h2, h3, h4, h5⟩; go_simp; rfl); exact hS0; simp only [List.setIfInBounds_toArray, List.set_cons_succ, List.set_cons_zero]
    refine reg_take 19 (v := .string (strB (subL s 8 16))) rfl rfl (by decide +kernel) rfl (fun w' _ => exec_str_slice (i := 8) (j := 16) rfl Tryz.underlying9 rfl rfl rfl (by decide) (by rw [HS.out]; decide)) hS0 ?_; simp only [List.setIfInBounds_toArray, List.set_cons_succ, List.set_cons_zero]
    (apply reg_take 20 rfl rfl (by decide +kernel) rfl); (rintro w' ⟨h1, h2, h3, h4, h5⟩; go_simp; rfl); exact hS0; simp only [List.setIfInBounds_toArray, List.set_cons_succ, List.set_cons_zero]
    refine reg_take 21 (v := .string (strB (s.drop 56))) rfl rfl (by decide +kernel) rfl (fun w' _ => exec_str_from (i := 56) rfl Tryz.underlying9 rfl rfl (by rw [HS.out]; decide)) hS0 ?_; simp only [List.setIfInBounds_toArray, List.set_cons_succ, List.set_cons_zero]
    refine reg_take 22 (v := .bool true) rfl rfl (by decide +kernel) rfl (fun w' _ => by rw [hnv.out]; exact exec_str_neq rfl rfl rfl rfl) hS0 ?_; simp only [List.setIfInBounds_toArray, List.set_cons_succ, List.set_cons_zero]
    (apply reg_take 23 rfl rfl (by decide +kernel) rfl); (rintro w' ⟨h1, h2, h3, h4, h5⟩; go_simp; rfl); exact hS0; simp only [List.setIfInBounds_toArray, List.set_cons_succ, List.set_cons_zero]
    refine reg_done (by decide +kernel) ?_
    have HP := Lib.hid (show labP s = ⟨0, 0, 0⟩ ∧ labG s = g0 ∧ labE s = 7 from by have e := HLAB.out; simp only [hb1, hb4, Bool.false_and, Bool.true_and, Bool.and_false] at e; unfold labP labG labE; rw [e]; exact ⟨rfl, rfl, rfl⟩)
    replace H1 := Lib.hid (And.intro H1.out.1 (H1.out.2.perm (show _ = pts B (.cells zPl TPl (0, 0)) * (pts (B + 1) (.cells zGen TGen (0, 0)) * (pts D (.cells #[.int .i64 (getM (subL s 8 12) : Int), .int .i64 (getM (subL s 12 16) : Int)] TGen (0, 0)) * (pts C (.cells #[.int .i64 (c5.toNat : Int), .int .i64 (c4.toNat : Int), .int .i64 (getM (subL s 6 8) : Int)] TPl (0, 0)) * F))) from by ac_rfl)))
    clear hS0 kc hb1 hb4 hne hnv
    obtain ⟨⟨b0, b1, b2, b3, b4'⟩, f0, f1, f2, f3, f4⟩ := bad_cells H1.out.2
    go_wp2
    replace H1 := Lib.hid (bad_store H1.out.1 H1.out.2)
    refine bodyPost_ret (v := .tuple #[.agg zPl, .agg zGen, .int .i64 7]) (results3 Tryz.results82 (ResIs.row rfl H1.out.2.block Tryz.underlying37 rfl (infoPl rfl)) (ResIs.row rfl H1.out.2.right.block Tryz.underlying42 rfl (infoGen rfl)) (.tmp rfl)) rfl ?_
    exact ⟨by rw [HP.out.1, HP.out.2.1, HP.out.2.2]; rfl, H1.out.1, H1.out.2.right.right.right.right⟩
  · have hnv := Lib.hid (show Value.bool false = Value.bool (!decide (subL s 8 16 = s.drop 56)) by rw [hb4]; rfl)
    refine reg_take 8 (v := .bool false) rfl rfl (by decide +kernel) rfl (fun w' _ => exec_binop rfl rfl rfl rfl (by simp [go_sem, hne])) hS0 ?_; simp only [List.setIfInBounds_toArray, List.set_cons_succ, List.set_cons_zero]
    (apply reg_take 9 rfl rfl (by decide +kernel) rfl); (rintro w' ⟨h1, h2, h3, h4, h5⟩; go_simp; rfl); exact hS0; simp only [List.setIfInBounds_toArray, List.set_cons_succ, List.set_cons_zero]
    (apply reg_take 10 rfl rfl (by decide +kernel) rfl); (rintro w' ⟨h1, h2, h3, h4, h5⟩; go_simp; rfl); exact hS0; simp only [List.setIfInBounds_toArray, List.set_cons_succ, List.set_cons_zero]
    (apply reg_take 11 rfl rfl (by decide +kernel) rfl); (rintro w' ⟨h1, h2, h3, h4, h5⟩; go_simp; rfl); exact hS0; simp only [List.setIfInBounds_toArray, List.set_cons_succ, List.set_cons_zero]
    (apply reg_take 12 rfl rfl (by decide +kernel) rfl); (rintro w' ⟨h1, h2, h3, h4, h5⟩; go_simp; rfl); exact hS0; simp only [List.setIfInBounds_toArray, List.set_cons_succ, List.set_cons_zero]
    (apply reg_take 13 rfl rfl (by decide +kernel) rfl); (rintro w' ⟨h1, h2, h3, h4, h5⟩; go_simp; rfl); exact hS0; simp only [List.setIfInBounds_toArray, List.set_cons_succ, List.set_cons_zero]
    (apply reg_take 14 rfl rfl (by decide +kernel) rfl); (rintro w' ⟨h1, h2, h3, h4, h5⟩; go_simp; rfl); exact hS0; simp only [List.setIfInBounds_toArray, List.set_cons_succ, List.set_cons_zero]
    (apply reg_take 15 rfl rfl (by decide +kernel) rfl); (rintro w' ⟨h1, h2, h3, h4, h5⟩; go_simp; rfl); exact hS0; simp only [List.setIfInBounds_toArray, List.set_cons_succ, List.set_cons_zero]
    (apply reg_take 16 rfl rfl (by decide +kernel) rfl); (rintro w' ⟨h1, h2, h3, h4, h5⟩; go_simp; rfl); exact hS0; simp only [List.setIfInBounds_toArray, List.set_cons_succ, List.set_cons_zero]
    (apply reg_take 17 rfl rfl (by decide +kernel) rfl); (rintro w' ⟨h1, h2, h3, h4, h5⟩; go_simp; rfl); exact hS0; simp only [List.setIfInBounds_toArray, List.set_cons_succ, List.set_cons_zero]
    (apply reg_take 18 rfl rfl (by decide +kernel) rfl); (rintro w' ⟨h1, h2, h3, h4, h5⟩; go_simp; rfl); exact hS0; simp only [List.setIfInBounds_toArray, List.set_cons_succ, List.set_cons_zero]
    refine reg_take 19 (v := .string (strB (subL s 8 16))) rfl rfl (by decide +kernel) rfl (fun w' _ => exec_str_slice (i := 8) (j := 16) rfl Tryz.underlying9 rfl rfl rfl (by decide) (by rw [HS.out]; decide)) hS0 ?_; simp only [List.setIfInBounds_toArray, List.set_cons_succ, List.set_cons_zero]
    (apply reg_take 20 rfl rfl (by decide +kernel) rfl); (rintro w' ⟨h1, h2, h3, h4, h5⟩; go_simp; rfl); exact hS0; simp only [List.setIfInBounds_toArray, List.set_cons_succ, List.set_cons_zero]
    refine reg_take 21 (v := .string (strB (s.drop 56))) rfl rfl (by decide +kernel) rfl (fun w' _ => exec_str_from (i := 56) rfl Tryz.underlying9 rfl rfl (by rw [HS.out]; decide)) hS0 ?_; simp only [List.setIfInBounds_toArray, List.set_cons_succ, List.set_cons_zero]
    refine reg_take 22 (v := .bool false) rfl rfl (by decide +kernel) rfl (fun w' _ => by rw [hnv.out]; exact exec_str_neq rfl rfl rfl rfl) hS0 ?_; simp only [List.setIfInBounds_toArray, List.set_cons_succ, List.set_cons_zero]
    (apply reg_take 23 rfl rfl (by decide +kernel) rfl); (rintro w' ⟨h1, h2, h3, h4, h5⟩; go_simp; rfl); exact hS0; simp only [List.setIfInBounds_toArray, List.set_cons_succ, List.set_cons_zero]
    clear hnv
    clear hne
    refine reg_done (by decide +kernel) ?_
    have HP := Lib.hid (show labP s = ⟨(c5.toNat : Int), (c4.toNat : Int), (getM (subL s 6 8) : Int)⟩ ∧ labG s = ⟨(getM (subL s 8 12) : Int), (getM (subL s 12 16) : Int)⟩ ∧ labE s = 0 from by have e := HLAB.out; simp only [hb1, hb4, Bool.true_and, Bool.and_true] at e; unfold labP labG labE; rw [e, HA.out, HG.out]; exact ⟨rfl, rfl, rfl⟩)
    clear kc hb1 hb4
    go_upto_region 9 with (fail)
    replace H1 := Lib.hid (And.intro H1.out.1.drew H1.out.2.drew)
    replace hS0 := lab_cells H1.out.2
    refine reg_begin (fun w' => w'.cell? ⟨C, 0, none⟩ = some (.int .i64 (c5.toNat : Int)) ∧ w'.cell? ⟨C, 1, none⟩ = some (.int .i64 (c4.toNat : Int)) ∧ w'.cell? ⟨C, 2, none⟩ = some (.int .i64 (getM (subL s 6 8) : Int)) ∧ w'.cell? ⟨D, 0, none⟩ = some (.int .i64 (getM (subL s 8 12) : Int)) ∧ w'.cell? ⟨D, 1, none⟩ = some (.int .i64 (getM (subL s 12 16) : Int))) (by kernel_rfl) ?_
    (apply reg_take 0 rfl rfl (by decide +kernel) rfl); (rintro w' ⟨h1, h2, h3, h4, h5⟩; go_simp; rfl); exact hS0; simp only [List.setIfInBounds_toArray, List.set_cons_succ, List.set_cons_zero]
    (apply reg_take 1 rfl rfl (by decide +kernel) rfl); (rintro w' ⟨h1, h2, h3, h4, h5⟩; go_simp; rfl); exact hS0; simp only [List.setIfInBounds_toArray, List.set_cons_succ, List.set_cons_zero]
    replace H1 := Lib.hid (And.intro H1.out.1 (H1.out.2.perm (show _ = pts B (.cells zPl TPl (0, 0)) * (pts (B + 1) (.cells zGen TGen (0, 0)) * (pts D (.cells #[.int .i64 (getM (subL s 8 12) : Int), .int .i64 (getM (subL s 12 16) : Int)] TGen (0, 0)) * (pts C (.cells #[.int .i64 (c5.toNat : Int), .int .i64 (c4.toNat : Int), .int .i64 (getM (subL s 6 8) : Int)] TPl (0, 0)) * F))) from by ac_rfl)))
    refine reg_store_blk 2 (T := TPl) (old := zPl) (new := #[.int .i64 (c5.toNat : Int), .int .i64 (c4.toNat : Int), .int .i64 (getM (subL s 6 8) : Int)]) rfl rfl (by decide +kernel) rfl rfl rfl rfl H1.out.2 (infoPl rfl) rfl (by simp [Value.oneCell']) ?_
    intro w9 h9
    replace H1 := Lib.hid (And.intro (H1.out.1.trans h9.out.1) (h9.out.2.perm (star_left_comm _ _ _)))
    replace hS0 := lab_cells (h9.out.2.right.right)
    refine ⟨hS0, ?_⟩
    clear h9
    refine reg_store_blk 3 (T := TGen) (old := zGen) (new := #[.int .i64 (getM (subL s 8 12) : Int), .int .i64 (getM (subL s 12 16) : Int)]) rfl rfl (by decide +kernel) rfl rfl rfl rfl H1.out.2 (infoGen rfl) rfl (by simp [Value.oneCell']) ?_
    intro w10 h10
    replace H1 := Lib.hid (And.intro (H1.out.1.trans h10.out.1) (h10.out.2.perm (star_left_comm _ _ _)))
    replace hS0 := lab_cells (h10.out.2.right.right)
    refine ⟨hS0, ?_⟩
    clear h10
    (apply reg_take 4 rfl rfl (by decide +kernel) rfl); (intro w' _; go_simp; rfl); exact hS0; simp only [List.setIfInBounds_toArray, List.set_cons_succ, List.set_cons_zero]
    refine reg_done (by decide +kernel) ?_
    clear hS0
    go_wp2
    refine bodyPost_ret (v := .tuple #[.agg (plA ⟨(c5.toNat : Int), (c4.toNat : Int), (getM (subL s 6 8) : Int)⟩), .agg (genA ⟨(getM (subL s 8 12) : Int), (getM (subL s 12 16) : Int)⟩), .int .i64 0]) (results3 Tryz.results82 (ResIs.row rfl H1.out.2.block Tryz.underlying37 rfl (infoPl rfl)) (ResIs.row rfl H1.out.2.right.block Tryz.underlying42 rfl (infoGen rfl)) (.tmp rfl)) rfl ?_
    exact ⟨by rw [HP.out.1, HP.out.2.1, HP.out.2.2], H1.out.1, H1.out.2.right.right.right.right⟩
end Go.Proofs.YtmcclbiaoeilkaaGreat
