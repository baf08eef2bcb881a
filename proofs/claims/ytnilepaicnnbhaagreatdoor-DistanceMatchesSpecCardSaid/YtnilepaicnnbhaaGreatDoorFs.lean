/- Law DistanceMatchesSpec: the walk. -/
import Derived.Test.YtnilepaicnnbhaaGreatDoorFr
import Derived.Test.YtnilepaicnnbhaaGreatDoorKv
namespace Go.Proofs.YtnilepaicnnbhaaGreatDoor
open Go.RowKit Go.GF Go.Sl Go.Shelf
/-- A code in a variable. -/
structure MsF (w0 : World) (g : Nat) (cv : Array Value) (w : World) : Prop where
  bx : Box w g cv
  bl : Below w0.heap.size w0 w
theorem MsF.below {w0 w w' : World} {g : Nat} {cv : Array Value} (h : MsF w0 g cv w) (hb : Below w.heap.size w w') : MsF w0 g cv w' := ⟨h.bx.below hb, h.bl.trans (hb.mono h.bl.size)⟩
set_option maxRecDepth 20000 in
set_option maxHeartbeats 4000000 in
theorem matches_any (nm : ByteArray) (f k : Int) (pv : Value) (dom : Int) (L : List (List Int)) (hv : Value) (h : List Bool) (rv : Value) (racks : List Int) (w : World) (hT : TabF w) (hA : ArgC w nm f k pv dom L) (hh : RowI w hv (boolsV h)) (hr : RowI w rv (intsV racks)) :
    Calls Tryz.prog 3 #[.agg (codeV nm f k pv dom), hv, rv] w fun e w' => e = .returned (.bool true) ∧ Below w.heap.size w w' := by
  have HSM := Lib.hid (fun W (hb : Below w.heap.size w W) => small_any nm f k pv dom L W (hA.below hb).par)
  have HSA := Lib.hid (fun W (hb : Below w.heap.size w W) => sanity_any W (hT.below hb))
  have HCV := Lib.hid (fun W (hb : Below w.heap.size w W) (hs : smallB k L.length = true) => (hA.below hb).cv hs)
  have HLO := Lib.hid (fun (hs : smallB k L.length = true) W (hb : Below w.heap.size w W) => losses_any _ nm f k L dom W (hT.below hb) ((hA.below hb).cv hs))
  have HLR := Lib.hid (fun (hs : smallB k L.length = true) W (hb : Below w.heap.size w W) => r9losses_any _ nm f k L dom W ((hA.below hb).cv hs))
  have HFO := Lib.hid (fun (hs : smallB k L.length = true) W (hb : Below w.heap.size w W) => left_any _ nm f k L dom hv h W (hT.below hb) ((hA.below hb).cv hs) (hh.below hb))
  have HFR := Lib.hid (fun (hs : smallB k L.length = true) W (hb : Below w.heap.size w W) => r9left_any _ nm f k L dom hv h W ((hA.below hb).cv hs) (hh.below hb))
  have HGO := Lib.hid (fun (hs : smallB k L.length = true) W (hb : Below w.heap.size w W) => fatal_any _ nm f k L dom hv h W (hT.below hb) ((hA.below hb).cv hs) (hh.below hb))
  have HGR := Lib.hid (fun (hs : smallB k L.length = true) W (hb : Below w.heap.size w W) => r9fatal_any _ nm f k L dom hv h W ((hA.below hb).cv hs) (hh.below hb))
  have HRO := Lib.hid (fun (hs : smallB k L.length = true) (hl : racks.length ≤ 1000) W (hb : Below w.heap.size w W) => racks_any _ nm f k L dom rv racks hl W (hT.below hb) ((hA.below hb).cv hs) (hr.below hb))
  have HRR := Lib.hid (fun (hs : smallB k L.length = true) W (hb : Below w.heap.size w W) => r9racks_any _ nm f k L dom rv racks W ((hA.below hb).cv hs) (hr.below hb))
  have HIN := Lib.hid (fun va vb (l : List Int) (hl : l.length ≤ 100000) W h1 h2 => ints_any va vb l l hl W h1 h2)
  have HCB := Lib.hid (fun t w1 h => code_box w w1 (codeV nm f k pv dom) t h)
  obtain ⟨ap, cp, rfl⟩ := RowsI.shape hA.par
  obtain ⟨ah, ch, rfl, -, hmh, -⟩ := id hh
  obtain ⟨ar, cr, rfl, -, hmr, -⟩ := id hr
  rw [boolsV_len, intsV_len] at *
  clear hT hA hh hr
  unfold codeV at *
  cases hs : smallB k L.length with
  | false =>
    rw [hs] at HSM
    clear hs
    go_enter Tryz.func3, Tryz.ntmps3
    go_wp2_with first
      | (go_at_call 4; refine (HSM.out _ (al_below w _)).mono ?_; rintro e w1 ⟨rfl, h1⟩; obtain ⟨hg, hb⟩ := HCB.out _ w1 h1)
      | (go_at_call 5; refine (HSA.out w1 hb).mono ?_; rintro e w3 ⟨rfl, h3⟩)
    go_ret
    exact ⟨rfl, hb.trans (h3.mono hb.size)⟩
  | true =>
    replace HLO := Lib.hid (HLO.out hs)
    replace HLR := Lib.hid (HLR.out hs)
    replace HFO := Lib.hid (HFO.out hs)
    replace HFR := Lib.hid (HFR.out hs)
    replace HGO := Lib.hid (HGO.out hs)
    replace HGR := Lib.hid (HGR.out hs)
    replace HRO := Lib.hid (HRO.out hs)
    replace HRR := Lib.hid (HRR.out hs)
    rw [hs] at HSM
    clear hs
    by_cases hh12 : h.length ≤ 12
    case neg =>
      have hd : decide (12 < (h.length : Int)) = true := decide_eq_true (by omega)
      clear hh12
      go_enter Tryz.func3, Tryz.ntmps3
      go_wp2_with first
        | (go_at_call 4; refine (HSM.out _ (al_below w _)).mono ?_; rintro e w1 ⟨rfl, h1⟩; obtain ⟨hg, hb⟩ := HCB.out _ w1 h1)
        | (go_at_call 5; refine (HSA.out w1 hb).mono ?_; rintro e w3 ⟨rfl, h3⟩)
      go_ret
      exact ⟨rfl, hb.trans (h3.mono hb.size)⟩
    have hd : decide (12 < (h.length : Int)) = false := decide_eq_false (by omega)
    by_cases hr12 : racks.length ≤ 12
    case neg =>
      have hd2 : decide (12 < (racks.length : Int)) = true := decide_eq_true (by omega)
      clear hr12
      go_enter Tryz.func3, Tryz.ntmps3
      go_wp2_with first
        | (go_at_call 4; refine (HSM.out _ (al_below w _)).mono ?_; rintro e w1 ⟨rfl, h1⟩; obtain ⟨hg, hb⟩ := HCB.out _ w1 h1)
        | (go_at_call 5; refine (HSA.out w1 hb).mono ?_; rintro e w3 ⟨rfl, h3⟩)
      go_ret
      exact ⟨rfl, hb.trans (h3.mono hb.size)⟩
    have hd2 : decide (12 < (racks.length : Int)) = false := decide_eq_false (by omega)
    replace HRO := Lib.hid (HRO.out (by omega))
    have HFL := Lib.hid (show (natsI (fatalM nm f k L dom h)).length ≤ 100000 from by
      rw [natsI_len]
      unfold fatalM
      split
      · by_cases hx : 0 ≤ (searchM (codeM f k L) h).1 ∧ (searchM (codeM f k L) h).1 ≠ 4
        · have h1 := (search_bad hx.1 hx.2).2.1
          have h2 := (search_lo (codeM f k L) h).2
          omega
        · rw [search_nil (by omega)]; simp
      · simp)
    generalize lossesM nm f k L dom = z1 at *
    generalize leftM nm f k L dom h = z2 at *
    generalize natsI (fatalM nm f k L dom h) = l3 at *
    generalize racksI nm f k L dom racks = z4 at *
    clear hh12 hr12
    go_enter Tryz.func3, Tryz.ntmps3
    go_upto_region 4 with (go_at_call 4; refine (HSM.out _ (al_below w _)).mono ?_; rintro e w1 ⟨rfl, h1⟩; obtain ⟨hg, hb⟩ := HCB.out _ w1 h1)
    have H1 := Lib.hid (show MsF w w.heap.size (codeV nm f k (.slice ap L.length cp) dom) w1.drew from ⟨hg.keep rfl, hb.drew⟩)
    clear h1 hg hb
    refine regU_begin (fun w' => MsF w w.heap.size (codeV nm f k (.slice ap L.length cp) dom) w') (by kernel_rfl) H1.out ?_
    refine regU_call 0 (f := 5) (args := #[]) (v := .bool true) rfl rfl (by decide +kernel) rfl (fun w' => by kernel_rfl) (fun w' h => (HSA.out w' h.bl).mono fun e w'' h2 => ⟨h2.1, h.below h2.2⟩) ?_
    simp only [List.setIfInBounds_toArray, List.set_cons_succ, List.set_cons_zero]
    (apply regU_take 1 rfl rfl (by decide +kernel) rfl); (intro w' hw'; go_simp; rfl); simp only [List.setIfInBounds_toArray, List.set_cons_succ, List.set_cons_zero]
    refine regU_take 2 (v := .agg (codeV nm f k (.slice ap L.length cp) dom)) rfl rfl (by decide +kernel) rfl (fun w' h => exec_ldC rfl rfl h.bx) ?_; simp only [List.setIfInBounds_toArray, List.set_cons_succ, List.set_cons_zero]
    refine regU_take 4 (v := .agg (codeV nm f k (.slice ap L.length cp) dom)) rfl rfl (by decide +kernel) rfl (fun w' h => exec_ldC rfl rfl h.bx) ?_; simp only [List.setIfInBounds_toArray, List.set_cons_succ, List.set_cons_zero]
    refine regU_call 3 (f := 6) (args := #[.agg (codeV nm f k (.slice ap L.length cp) dom)]) (v := .int .i64 z1) rfl rfl (by decide +kernel) rfl (fun w' => by kernel_rfl) (fun w' h => (HLO.out w' h.bl).mono fun e w'' h2 => ⟨h2.1, h.below h2.2⟩) ?_
    simp only [List.setIfInBounds_toArray, List.set_cons_succ, List.set_cons_zero]
    refine regU_call 5 (f := 7) (args := #[.agg (codeV nm f k (.slice ap L.length cp) dom)]) (v := .int .i64 z1) rfl rfl (by decide +kernel) rfl (fun w' => by kernel_rfl) (fun w' h => (HLR.out w' h.bl).mono fun e w'' h2 => ⟨h2.1, h.below h2.2⟩) ?_
    simp only [List.setIfInBounds_toArray, List.set_cons_succ, List.set_cons_zero]
    refine regU_take 6 (v := .bool true) rfl rfl (by decide +kernel) rfl (fun w' _ => exec_binop (vx := .int .i64 z1) (vy := .int .i64 z1) rfl rfl rfl rfl (run_eqlT w')) ?_; simp only [List.setIfInBounds_toArray, List.set_cons_succ, List.set_cons_zero]
    (apply regU_take 7 rfl rfl (by decide +kernel) rfl); (intro w' hw'; go_simp; rfl); simp only [List.setIfInBounds_toArray, List.set_cons_succ, List.set_cons_zero]
    (apply regU_take 8 rfl rfl (by decide +kernel) rfl); (intro w' hw'; go_simp; rfl); simp only [List.setIfInBounds_toArray, List.set_cons_succ, List.set_cons_zero]
    refine regU_take 9 (v := .agg (codeV nm f k (.slice ap L.length cp) dom)) rfl rfl (by decide +kernel) rfl (fun w' h => exec_ldC rfl rfl h.bx) ?_; simp only [List.setIfInBounds_toArray, List.set_cons_succ, List.set_cons_zero]
    (apply regU_take 10 rfl rfl (by decide +kernel) rfl); (intro w' hw'; go_simp; rfl); simp only [List.setIfInBounds_toArray, List.set_cons_succ, List.set_cons_zero]
    refine regU_take 12 (v := .agg (codeV nm f k (.slice ap L.length cp) dom)) rfl rfl (by decide +kernel) rfl (fun w' h => exec_ldC rfl rfl h.bx) ?_; simp only [List.setIfInBounds_toArray, List.set_cons_succ, List.set_cons_zero]
    (apply regU_take 13 rfl rfl (by decide +kernel) rfl); (intro w' hw'; go_simp; rfl); simp only [List.setIfInBounds_toArray, List.set_cons_succ, List.set_cons_zero]
    refine regU_call 11 (f := 8) (args := #[.agg (codeV nm f k (.slice ap L.length cp) dom), .slice ah h.length ch]) (v := .int .i64 z2) rfl rfl (by decide +kernel) rfl (fun w' => by kernel_rfl) (fun w' h => (HFO.out w' h.bl).mono fun e w'' h2 => ⟨h2.1, h.below h2.2⟩) ?_
    simp only [List.setIfInBounds_toArray, List.set_cons_succ, List.set_cons_zero]
    refine regU_call 14 (f := 9) (args := #[.agg (codeV nm f k (.slice ap L.length cp) dom), .slice ah h.length ch]) (v := .int .i64 z2) rfl rfl (by decide +kernel) rfl (fun w' => by kernel_rfl) (fun w' h => (HFR.out w' h.bl).mono fun e w'' h2 => ⟨h2.1, h.below h2.2⟩) ?_
    simp only [List.setIfInBounds_toArray, List.set_cons_succ, List.set_cons_zero]
    refine regU_take 15 (v := .bool true) rfl rfl (by decide +kernel) rfl (fun w' _ => exec_binop (vx := .int .i64 z2) (vy := .int .i64 z2) rfl rfl rfl rfl (run_eqlT w')) ?_; simp only [List.setIfInBounds_toArray, List.set_cons_succ, List.set_cons_zero]
    (apply regU_take 16 rfl rfl (by decide +kernel) rfl); (intro w' hw'; go_simp; rfl); simp only [List.setIfInBounds_toArray, List.set_cons_succ, List.set_cons_zero]
    refine regU_alone (S' := fun w' => MsF w w.heap.size (codeV nm f k (.slice ap L.length cp) dom) w') 17 (by decide +kernel) ?_
    intro w2 hS2
    (apply reg_take 17 rfl rfl (by decide +kernel) rfl); (intro w' hw'; go_simp; rfl); exact hS2; simp only [List.setIfInBounds_toArray, List.set_cons_succ, List.set_cons_zero]
    refine reg_take 18 (v := .agg (codeV nm f k (.slice ap L.length cp) dom)) rfl rfl (by decide +kernel) rfl (fun w' h => exec_ldC rfl rfl h.bx) hS2 ?_; simp only [List.setIfInBounds_toArray, List.set_cons_succ, List.set_cons_zero]
    (apply reg_take 19 rfl rfl (by decide +kernel) rfl); (intro w' hw'; go_simp; rfl); exact hS2; simp only [List.setIfInBounds_toArray, List.set_cons_succ, List.set_cons_zero]
    refine reg_take 21 (v := .agg (codeV nm f k (.slice ap L.length cp) dom)) rfl rfl (by decide +kernel) rfl (fun w' h => exec_ldC rfl rfl h.bx) hS2 ?_; simp only [List.setIfInBounds_toArray, List.set_cons_succ, List.set_cons_zero]
    (apply reg_take 22 rfl rfl (by decide +kernel) rfl); (intro w' hw'; go_simp; rfl); exact hS2; simp only [List.setIfInBounds_toArray, List.set_cons_succ, List.set_cons_zero]
    refine reg_call 20 rfl rfl (by decide +kernel) rfl (f := 11) (args := #[.agg (codeV nm f k (.slice ap L.length cp) dom), .slice ah h.length ch]) (R := fun v w' => RowI w' v (intsV l3) ∧ Below w2.heap.size w2 w') (by kernel_rfl) ((HGO.out w2 hS2.bl).mono fun e w' h => h) ?_
    rintro va w3 ⟨gva, bva⟩
    have hS3 := hS2.below bva
    refine ⟨hS3, ?_⟩
    simp only [List.setIfInBounds_toArray, List.set_cons_succ, List.set_cons_zero]
    refine reg_call 23 rfl rfl (by decide +kernel) rfl (f := 12) (args := #[.agg (codeV nm f k (.slice ap L.length cp) dom), .slice ah h.length ch]) (R := fun v w' => RowI w' v (intsV l3) ∧ Below w3.heap.size w3 w') (by kernel_rfl) ((HGR.out w3 hS3.bl).mono fun e w' h => h) ?_
    rintro vb w4 ⟨gvb, bvb⟩
    have hS4 := hS3.below bvb
    refine ⟨hS4, ?_⟩
    simp only [List.setIfInBounds_toArray, List.set_cons_succ, List.set_cons_zero]
    have gva4 := gva.below bvb
    refine reg_call 24 rfl rfl (by decide +kernel) rfl (f := 10) (args := #[va, vb]) (R := fun v w' => v = .bool true ∧ Below w4.heap.size w4 w') (by kernel_rfl) ((HIN.out va vb l3 HFL.out w4 gva4 gvb).mono fun e w' h => ⟨_, h.1, by simp, h.2⟩) ?_
    rintro _ w5 ⟨rfl, b5⟩
    have hS5 := hS4.below b5
    refine ⟨hS5, ?_⟩
    simp only [List.setIfInBounds_toArray, List.set_cons_succ, List.set_cons_zero]
    (apply reg_take 25 rfl rfl (by decide +kernel) rfl); (intro w' hw'; go_simp; rfl); exact hS5; simp only [List.setIfInBounds_toArray, List.set_cons_succ, List.set_cons_zero]
    (apply reg_take 26 rfl rfl (by decide +kernel) rfl); (intro w' hw'; go_simp; rfl); exact hS5; simp only [List.setIfInBounds_toArray, List.set_cons_succ, List.set_cons_zero]
    refine reg_take 27 (v := .agg (codeV nm f k (.slice ap L.length cp) dom)) rfl rfl (by decide +kernel) rfl (fun w' h => exec_ldC rfl rfl h.bx) hS5 ?_; simp only [List.setIfInBounds_toArray, List.set_cons_succ, List.set_cons_zero]
    (apply reg_take 28 rfl rfl (by decide +kernel) rfl); (intro w' hw'; go_simp; rfl); exact hS5; simp only [List.setIfInBounds_toArray, List.set_cons_succ, List.set_cons_zero]
    refine reg_take 30 (v := .agg (codeV nm f k (.slice ap L.length cp) dom)) rfl rfl (by decide +kernel) rfl (fun w' h => exec_ldC rfl rfl h.bx) hS5 ?_; simp only [List.setIfInBounds_toArray, List.set_cons_succ, List.set_cons_zero]
    (apply reg_take 31 rfl rfl (by decide +kernel) rfl); (intro w' hw'; go_simp; rfl); exact hS5; simp only [List.setIfInBounds_toArray, List.set_cons_succ, List.set_cons_zero]
    refine reg_call 29 rfl rfl (by decide +kernel) rfl (f := 13) (args := #[.agg (codeV nm f k (.slice ap L.length cp) dom), .slice ar racks.length cr]) (R := fun v w' => v = .int .i64 z4 ∧ Below w5.heap.size w5 w') (by kernel_rfl) ((HRO.out w5 hS5.bl).mono fun e w' h => ⟨_, h.1, rfl, h.2⟩) ?_
    rintro _ w6 ⟨rfl, c6⟩
    have hS6 := hS5.below c6
    refine ⟨hS6, ?_⟩
    simp only [List.setIfInBounds_toArray, List.set_cons_succ, List.set_cons_zero]
    refine reg_call 32 rfl rfl (by decide +kernel) rfl (f := 14) (args := #[.agg (codeV nm f k (.slice ap L.length cp) dom), .slice ar racks.length cr]) (R := fun v w' => v = .int .i64 z4 ∧ Below w6.heap.size w6 w') (by kernel_rfl) ((HRR.out w6 hS6.bl).mono fun e w' h => ⟨_, h.1, rfl, h.2⟩) ?_
    rintro _ w7 ⟨rfl, c7⟩
    have hS7 := hS6.below c7
    refine ⟨hS7, ?_⟩
    simp only [List.setIfInBounds_toArray, List.set_cons_succ, List.set_cons_zero]
    refine reg_take 33 (v := .bool true) rfl rfl (by decide +kernel) rfl (fun w' _ => exec_binop (vx := .int .i64 z4) (vy := .int .i64 z4) rfl rfl rfl rfl (run_eqlT w')) hS7 ?_; simp only [List.setIfInBounds_toArray, List.set_cons_succ, List.set_cons_zero]
    (apply reg_take 34 rfl rfl (by decide +kernel) rfl); (intro w' hw'; go_simp; rfl); exact hS7; simp only [List.setIfInBounds_toArray, List.set_cons_succ, List.set_cons_zero]
    (apply reg_take 35 rfl rfl (by decide +kernel) rfl); (intro w' hw'; go_simp; rfl); exact hS7; simp only [List.setIfInBounds_toArray, List.set_cons_succ, List.set_cons_zero]
    refine reg_done (by decide +kernel) ?_
    have HE := Lib.hid hS7.bl
    clear hS2 hS3 hS4 hS5 hS6 hS7
    go_wp2
    go_ret
    exact ⟨rfl, HE.out⟩
end Go.Proofs.YtnilepaicnnbhaaGreatDoor
