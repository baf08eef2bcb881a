/- solventref28.One and Of: what a tenant uses, counted over the lists. Printed by an.py. -/
import Derived.Test.YtmgcgdkndkibgaaGreatAq
import Derived.Test.YtmgcgdkndkibgaaGreatAr
namespace Go.Proofs.YtmgcgdkndkibgaaGreat
open Go.RowKit Go.Vol Go.Sl

def oneF (x y : Int) : Array Value := #[.int .i64 x, .int .i64 y]
theorem info_rp4 : (Tryz.prog.info? 68).map (fun i => (i.zero, i.size, i.bytes)) = some (some (.agg #[.int .i64 0, .int .i64 0, .int .i64 0, .slice none 0 0]), 4, 48) := by kernel_rfl
structure OnSt (w : World) (U A : Nat) (X : HProp) (L : List PartM) (t : Int) (f : Int → Array Value) (i : Value) (wr : World) : Prop where
  st : ∃ k : Nat, k ≤ L.length ∧ i = .int .i64 (k : Int) ∧ Hid (Same w wr ∧ Sat wr (pts U (.cells (f (sumU (L.take k) t)) TUse (0, 0)) * X))
set_option maxRecDepth 20000 in
set_option maxHeartbeats 4000000 in
theorem one_any {ok : Nat → Prop} (vv vs : Value) (S : SpaceM) (t : Int) (w : World) (hS : RefAt ok w vv vs S) (hwf : S.WF) :
    Calls Tryz.prog 39 #[.agg #[vv, vs], .int .i64 t] w fun e w' => e = .returned (.agg #[.int .i64 (sumU S.vols t), .int .i64 (sumU S.snaps t)]) ∧ Below w.heap.size w w' := by
  obtain ⟨va, vc, rfl, hvc, hvm⟩ := hS.v.slice
  obtain ⟨sa, sc, rfl, hsc, hsm⟩ := hS.s.slice
  have HB := Lib.hid (And.intro hS.v hS.s)
  have hvl := hwf.vlen
  have hsl := hwf.slen
  clear hS hvc hvm hsc hsm hwf
  go_enter Tryz.func39, Tryz.ntmps39
  go_upto_region 2 with (fail)
  have H1 := Lib.hid (And.intro ((((Same.refl w).alloc (.cells #[.slice va S.vols.length vc, .slice sa S.snaps.length sc] TRS)).alloc (.cells #[.int .i64 0, .int .i64 0] TUse)).alloc (.cells #[.int .i64 0, .int .i64 0] TUse)) ((((Sat.old w).alloc (.cells #[.slice va S.vols.length vc, .slice sa S.snaps.length sc] TRS)).alloc (.cells #[.int .i64 0, .int .i64 0] TUse)).alloc (.cells #[.int .i64 0, .int .i64 0] TUse)))
  simp only [World.size_alloc] at H1
  generalize ((w.alloc (.cells #[.slice va S.vols.length vc, .slice sa S.snaps.length sc] TRS)).alloc (.cells #[.int .i64 0, .int .i64 0] TUse)).alloc (.cells #[.int .i64 0, .int .i64 0] TUse) = w1 at H1 ⊢
  generalize w.heap.size + 1 + 1 = U at H1 ⊢
  generalize w.heap.size + 1 = R at H1 ⊢
  generalize hA : w.heap.size = A at H1 ⊢
  have HA := Lib.hid hA
  clear hA
  go_wp2
  go_loopw [6] (fun i wr => OnSt w U A (pts R (.cells #[.int .i64 0, .int .i64 0] TUse (0, 0)) * (pts A (.cells #[.slice va S.vols.length vc, .slice sa S.snaps.length sc] TRS (0, 0)) * old w)) S.vols t (fun a => oneF a 0) i wr) (fun i _ => S.vols.length - (intOf i).toNat)
  case atStart => exact ⟨⟨0, Nat.zero_le _, rfl, H1.out⟩⟩
  case round =>
    clear H1
    obtain ⟨k, hk, rfl, HX⟩ := hrel.st
    clear hrel
    have hbw := HX.out.1.below_of HX.out.2.right.right
    have hbA := HX.out.2.right.right.block
    have hbU := HX.out.2.block
    have c0 := cells_at hbA 0; have c1 := cells_at hbA 1
    have hcl := sumU_le t (S.vols.take k)
    rw [List.length_take] at hcl
    by_cases hlt : k < S.vols.length
    · have hltd : decide ((k : Int) < (S.vols.length : Int)) = true := decide_eq_true (by omega)
      have hki : (k : Int) ≤ 256 := by omega
      obtain ⟨x, hx⟩ : ∃ x, S.vols[k]? = some x := ⟨_, List.getElem?_eq_getElem hlt⟩
      obtain ⟨g, pa, pc, hva, hg, e0, e1, e2, e3, hrow⟩ := part_at HB.out.1 hx
      cases hva
      have e1 := (hbw.cell (p := ⟨g, k * 4 + 1, none⟩) hg).trans e1
      have e3 := (hbw.cell (p := ⟨g, k * 4 + 3, none⟩) hg).trans e3
      have HT := Lib.hid (sumU_take hx t)
      have hcn := cnt_le x.m
      have hil := items_len x.m
      have hwk : IntKind.i64.wrap ((k : Int) + 1) = (k : Int) + 1 := IntWalk.i64_in _ (by omega)
      have hwt : IntKind.i64.wrap (sumU (S.vols.take k) t + ((items x.m).length : Int)) = sumU (S.vols.take k) t + ((items x.m).length : Int) := IntWalk.i64_in _ (by omega)
      have HC := Lib.hid (And.intro hbA (And.intro hbU (And.intro e3 hil)))
      clear hx e0 e2 hrow hbA hbU hbw e3 hil
      cases hid : (x.tenant == t)
      · go_wp2
        go_roundw
        case rel => exact ⟨⟨k + 1, hlt, rfl, HX.out.1, by rw [HT.out, hid]; simpa using HX.out.2⟩⟩
        case measure => simp only [intOf]; omega
      · go_upto_region 6 with (fail)
        clear c0 c1 e1
        have hS0 : (fun w' : World => w'.cell? ⟨U, 0, none⟩ = some (.int .i64 (sumU (S.vols.take k) t)) ∧ w'.cell? ⟨A, 0, none⟩ = some (.slice (some ⟨g, 0, none⟩) S.vols.length vc) ∧ w'.cell? ⟨g, k * 4 + 3, none⟩ = some (.slice pa (items x.m).length pc)) wr.drew := ⟨cells_at HC.out.2.1 0, cells_at HC.out.1 0, HC.out.2.2.1⟩
        refine reg_begin (fun w' => w'.cell? ⟨U, 0, none⟩ = some (.int .i64 (sumU (S.vols.take k) t)) ∧ w'.cell? ⟨A, 0, none⟩ = some (.slice (some ⟨g, 0, none⟩) S.vols.length vc) ∧ w'.cell? ⟨g, k * 4 + 3, none⟩ = some (.slice pa (items x.m).length pc)) (by kernel_rfl) ?_
        obtain ⟨ti, hti, hz0, hts, hz2⟩ := info_parts info_rp4
        (apply reg_take 0 rfl rfl (by decide +kernel) rfl); (rintro w' ⟨h1, h2, h3⟩; go_simp; rfl); exact hS0; simp only [List.setIfInBounds_toArray, List.set_cons_succ, List.set_cons_zero]
        (apply reg_take 1 rfl rfl (by decide +kernel) rfl); (rintro w' ⟨h1, h2, h3⟩; go_simp; rfl); exact hS0; simp only [List.setIfInBounds_toArray, List.set_cons_succ, List.set_cons_zero]
        (apply reg_take 2 rfl rfl (by decide +kernel) rfl); (rintro w' ⟨h1, h2, h3⟩; go_simp; rfl); exact hS0; simp only [List.setIfInBounds_toArray, List.set_cons_succ, List.set_cons_zero]
        (apply reg_take 3 rfl rfl (by decide +kernel) rfl); (rintro w' ⟨h1, h2, h3⟩; go_simp; rfl); exact hS0; simp only [List.setIfInBounds_toArray, List.set_cons_succ, List.set_cons_zero]
        (apply reg_take 4 rfl rfl (by decide +kernel) rfl); (rintro w' ⟨h1, h2, h3⟩; go_simp; rfl); exact hS0; simp only [List.setIfInBounds_toArray, List.set_cons_succ, List.set_cons_zero]
        refine reg_take 5 (v := .pointer (some ⟨g, 0 + k * 4, none⟩)) rfl rfl (by decide +kernel) rfl (fun _ _ => exec_index_slice rfl rfl rfl Tryz.underlying24 hti hts hlt) hS0 ?_; simp only [List.setIfInBounds_toArray, List.set_cons_succ, List.set_cons_zero]
        rw [Nat.zero_add]
        (apply reg_take 6 rfl rfl (by decide +kernel) rfl); (rintro w' ⟨h1, h2, h3⟩; go_simp; rfl); exact hS0; simp only [List.setIfInBounds_toArray, List.set_cons_succ, List.set_cons_zero]
        (apply reg_take 7 rfl rfl (by decide +kernel) rfl); (rintro w' ⟨h1, h2, h3⟩; go_simp; rfl); exact hS0; simp only [List.setIfInBounds_toArray, List.set_cons_succ, List.set_cons_zero]
        (apply reg_take 8 rfl rfl (by decide +kernel) rfl); (rintro w' ⟨h1, h2, h3⟩; go_simp; rfl); exact hS0; simp only [List.setIfInBounds_toArray, List.set_cons_succ, List.set_cons_zero]
        (apply reg_take 9 rfl rfl (by decide +kernel) rfl); (rintro w' ⟨h1, h2, h3⟩; go_simp; rfl); exact hS0; simp only [List.setIfInBounds_toArray, List.set_cons_succ, List.set_cons_zero]
        (apply reg_take 10 rfl rfl (by decide +kernel) rfl); (rintro w' ⟨h1, h2, h3⟩; go_simp; rfl); exact hS0; simp only [List.setIfInBounds_toArray, List.set_cons_succ, List.set_cons_zero]
        obtain ⟨tj, htj, hy0, hys, hy2⟩ := info_parts info_i64
        refine reg_do_last 11 (wr.drew.setCell ⟨U, 0, none⟩ (.int .i64 (sumU (S.vols.take k) t + ((items x.m).length : Int)))) rfl rfl (by decide +kernel) rfl (exec_store_cell rfl rfl rfl htj hys rfl hS0.1 (thawed_at HC.out.2.1 0)) ?_
        have H6 := Lib.hid (And.intro (HX.out.1.drew.setCell ⟨U, 0, none⟩ (.int .i64 (sumU (S.vols.take k) t + ((items x.m).length : Int)))) (HX.out.2.drew.setCell (i := 0) (.int .i64 (sumU (S.vols.take k) t + ((items x.m).length : Int)))))
        clear hS0 hti hz0 hts hz2 htj hy0 hys hy2
        generalize wr.drew.setCell ⟨U, 0, none⟩ (.int .i64 (sumU (S.vols.take k) t + ((items x.m).length : Int))) = w7 at H6 ⊢
        go_wp2
        go_roundw
        case rel => exact ⟨⟨k + 1, hlt, rfl, H6.out.1, by rw [HT.out, hid, if_pos rfl, ← HC.out.2.2.2]; exact H6.out.2⟩⟩
        case measure => simp only [intOf]; omega
    · obtain rfl : k = S.vols.length := by omega
      have hltd0 : decide ((S.vols.length : Int) < (S.vols.length : Int)) = false := decide_eq_false (by omega)
      have hnlt0 : ¬ (S.vols.length : Int) < (S.vols.length : Int) := by omega
      rw [List.take_length] at HX hcl
      have HX := Lib.hid HX.out
      clear hbA hbU hbw
      go_wp2
      clear c0 c1
      go_loopw [7] (fun i wr => OnSt w U A (pts R (.cells #[.int .i64 0, .int .i64 0] TUse (0, 0)) * (pts A (.cells #[.slice va S.vols.length vc, .slice sa S.snaps.length sc] TRS (0, 0)) * old w)) S.snaps t (fun a => oneF (sumU S.vols t) a) i wr) (fun i _ => S.snaps.length - (intOf i).toNat)
      case atStart => exact ⟨⟨0, Nat.zero_le _, rfl, HX.out⟩⟩
      case round =>
        have hcl0 := hcl
        clear HX hcl
        obtain ⟨k, hk, rfl, HX⟩ := hrel.st
        clear hrel
        have hbw := HX.out.1.below_of HX.out.2.right.right
        have hbA := HX.out.2.right.right.block
        have hbU := HX.out.2.block
        have c0 := cells_at hbA 0; have c1 := cells_at hbA 1
        have hcl := sumU_le t (S.snaps.take k)
        rw [List.length_take] at hcl
        by_cases hlt : k < S.snaps.length
        · have hltd : decide ((k : Int) < (S.snaps.length : Int)) = true := decide_eq_true (by omega)
          have hki : (k : Int) ≤ 256 := by omega
          obtain ⟨x, hx⟩ : ∃ x, S.snaps[k]? = some x := ⟨_, List.getElem?_eq_getElem hlt⟩
          obtain ⟨g, pa, pc, hva, hg, e0, e1, e2, e3, hrow⟩ := part_at HB.out.2 hx
          cases hva
          have e1 := (hbw.cell (p := ⟨g, k * 4 + 1, none⟩) hg).trans e1
          have e3 := (hbw.cell (p := ⟨g, k * 4 + 3, none⟩) hg).trans e3
          have HT := Lib.hid (sumU_take hx t)
          have hcn := cnt_le x.m
          have hil := items_len x.m
          have hwk : IntKind.i64.wrap ((k : Int) + 1) = (k : Int) + 1 := IntWalk.i64_in _ (by omega)
          have hwt : IntKind.i64.wrap (sumU (S.snaps.take k) t + ((items x.m).length : Int)) = sumU (S.snaps.take k) t + ((items x.m).length : Int) := IntWalk.i64_in _ (by omega)
          have HC := Lib.hid (And.intro hbA (And.intro hbU (And.intro e3 hil)))
          clear hx e0 e2 hrow hbA hbU hbw e3 hil
          cases hid : (x.tenant == t)
          · go_wp2
            go_roundw
            case rel => exact ⟨⟨k + 1, hlt, rfl, HX.out.1, by rw [HT.out, hid]; simpa using HX.out.2⟩⟩
            case measure => simp only [intOf]; omega
          · go_upto_region 11 with (fail)
            clear c0 c1 e1
            have hS0 : (fun w' : World => w'.cell? ⟨U, 1, none⟩ = some (.int .i64 (sumU (S.snaps.take k) t)) ∧ w'.cell? ⟨A, 1, none⟩ = some (.slice (some ⟨g, 0, none⟩) S.snaps.length sc) ∧ w'.cell? ⟨g, k * 4 + 3, none⟩ = some (.slice pa (items x.m).length pc)) wr.drew := ⟨cells_at HC.out.2.1 1, cells_at HC.out.1 1, HC.out.2.2.1⟩
            refine reg_begin (fun w' => w'.cell? ⟨U, 1, none⟩ = some (.int .i64 (sumU (S.snaps.take k) t)) ∧ w'.cell? ⟨A, 1, none⟩ = some (.slice (some ⟨g, 0, none⟩) S.snaps.length sc) ∧ w'.cell? ⟨g, k * 4 + 3, none⟩ = some (.slice pa (items x.m).length pc)) (by kernel_rfl) ?_
            obtain ⟨ti, hti, hz0, hts, hz2⟩ := info_parts info_rp4
            (apply reg_take 0 rfl rfl (by decide +kernel) rfl); (rintro w' ⟨h1, h2, h3⟩; go_simp; rfl); exact hS0; simp only [List.setIfInBounds_toArray, List.set_cons_succ, List.set_cons_zero]
            (apply reg_take 1 rfl rfl (by decide +kernel) rfl); (rintro w' ⟨h1, h2, h3⟩; go_simp; rfl); exact hS0; simp only [List.setIfInBounds_toArray, List.set_cons_succ, List.set_cons_zero]
            (apply reg_take 2 rfl rfl (by decide +kernel) rfl); (rintro w' ⟨h1, h2, h3⟩; go_simp; rfl); exact hS0; simp only [List.setIfInBounds_toArray, List.set_cons_succ, List.set_cons_zero]
            (apply reg_take 3 rfl rfl (by decide +kernel) rfl); (rintro w' ⟨h1, h2, h3⟩; go_simp; rfl); exact hS0; simp only [List.setIfInBounds_toArray, List.set_cons_succ, List.set_cons_zero]
            (apply reg_take 4 rfl rfl (by decide +kernel) rfl); (rintro w' ⟨h1, h2, h3⟩; go_simp; rfl); exact hS0; simp only [List.setIfInBounds_toArray, List.set_cons_succ, List.set_cons_zero]
            refine reg_take 5 (v := .pointer (some ⟨g, 0 + k * 4, none⟩)) rfl rfl (by decide +kernel) rfl (fun _ _ => exec_index_slice rfl rfl rfl Tryz.underlying24 hti hts hlt) hS0 ?_; simp only [List.setIfInBounds_toArray, List.set_cons_succ, List.set_cons_zero]
            rw [Nat.zero_add]
            (apply reg_take 6 rfl rfl (by decide +kernel) rfl); (rintro w' ⟨h1, h2, h3⟩; go_simp; rfl); exact hS0; simp only [List.setIfInBounds_toArray, List.set_cons_succ, List.set_cons_zero]
            (apply reg_take 7 rfl rfl (by decide +kernel) rfl); (rintro w' ⟨h1, h2, h3⟩; go_simp; rfl); exact hS0; simp only [List.setIfInBounds_toArray, List.set_cons_succ, List.set_cons_zero]
            (apply reg_take 8 rfl rfl (by decide +kernel) rfl); (rintro w' ⟨h1, h2, h3⟩; go_simp; rfl); exact hS0; simp only [List.setIfInBounds_toArray, List.set_cons_succ, List.set_cons_zero]
            (apply reg_take 9 rfl rfl (by decide +kernel) rfl); (rintro w' ⟨h1, h2, h3⟩; go_simp; rfl); exact hS0; simp only [List.setIfInBounds_toArray, List.set_cons_succ, List.set_cons_zero]
            (apply reg_take 10 rfl rfl (by decide +kernel) rfl); (rintro w' ⟨h1, h2, h3⟩; go_simp; rfl); exact hS0; simp only [List.setIfInBounds_toArray, List.set_cons_succ, List.set_cons_zero]
            obtain ⟨tj, htj, hy0, hys, hy2⟩ := info_parts info_i64
            refine reg_do_last 11 (wr.drew.setCell ⟨U, 1, none⟩ (.int .i64 (sumU (S.snaps.take k) t + ((items x.m).length : Int)))) rfl rfl (by decide +kernel) rfl (exec_store_cell rfl rfl rfl htj hys rfl hS0.1 (thawed_at HC.out.2.1 1)) ?_
            have H6 := Lib.hid (And.intro (HX.out.1.drew.setCell ⟨U, 1, none⟩ (.int .i64 (sumU (S.snaps.take k) t + ((items x.m).length : Int)))) (HX.out.2.drew.setCell (i := 1) (.int .i64 (sumU (S.snaps.take k) t + ((items x.m).length : Int)))))
            clear hS0 hti hz0 hts hz2 htj hy0 hys hy2
            generalize wr.drew.setCell ⟨U, 1, none⟩ (.int .i64 (sumU (S.snaps.take k) t + ((items x.m).length : Int))) = w7 at H6 ⊢
            go_wp2
            go_roundw
            case rel => exact ⟨⟨k + 1, hlt, rfl, H6.out.1, by rw [HT.out, hid, if_pos rfl, ← HC.out.2.2.2]; exact H6.out.2⟩⟩
            case measure => simp only [intOf]; omega
        · obtain rfl : k = S.snaps.length := by omega
          have hltd1 : decide ((S.snaps.length : Int) < (S.snaps.length : Int)) = false := decide_eq_false (by omega)
          have hnlt1 : ¬ (S.snaps.length : Int) < (S.snaps.length : Int) := by omega
          rw [List.take_length] at HX hcl
          have d0 : wr.cell? ⟨U, 0, none⟩ = some (.int .i64 (sumU S.vols t)) := cells_at HX.out.2.block 0; have d1 : wr.cell? ⟨U, 1, none⟩ = some (.int .i64 (sumU S.snaps t)) := cells_at HX.out.2.block 1
          have hR := HX.out.2.right.block
          have g0 := cells_at hR 0; have g1 := cells_at hR 1
          have f0 := thawed_at hR 0; have f1 := thawed_at hR 1
          have HE := Lib.hid (And.intro HX.out.1 HX.out.2)
          clear hbA hbU hbw HX hR
          go_wp2
          have h9 := ((HE.out.2.perm (show _ = pts R (.cells #[.int .i64 0, .int .i64 0] TUse (0, 0)) * (pts U (.cells (oneF (sumU S.vols t) (sumU S.snaps t)) TUse (0, 0)) * (pts A (.cells #[.slice va S.vols.length vc, .slice sa S.snaps.length sc] TRS (0, 0)) * old w)) from by ac_rfl)).setCell (i := 0) (.int .i64 (sumU S.vols t))).setCell (i := 1) (.int .i64 (sumU S.snaps t))
          simp only [List.setIfInBounds_toArray, List.set_cons_succ, List.set_cons_zero] at h9
          have hb9 := ((HE.out.1.setCell ⟨R, 0, none⟩ (.int .i64 (sumU S.vols t))).setCell ⟨R, 1, none⟩ (.int .i64 (sumU S.snaps t))).below_of h9.right.right
          refine bodyPost_ret (v := .agg (oneF (sumU S.vols t) (sumU S.snaps t))) (results_cell_row Tryz.results39 _ _ R TUse (oneF (sumU S.vols t) (sumU S.snaps t)) (0, 0) _ rfl h9.block Tryz.underlying39 rfl (by kernel_rfl)) rfl ?_
          exact ⟨rfl, hb9⟩
end Go.Proofs.YtmgcgdkndkibgaaGreat
