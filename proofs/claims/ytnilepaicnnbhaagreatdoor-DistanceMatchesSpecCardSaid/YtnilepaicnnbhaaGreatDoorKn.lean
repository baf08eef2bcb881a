import Derived.Test.YtnilepaicnnbhaaGreatDoorKh
import Derived.Test.YtnilepaicnnbhaaGreatDoorKe
import Derived.Test.YtnilepaicnnbhaaGreatDoorKk
/- package distance: Left, Fatal, Losses. -/
namespace Go.GF
open Go Go.RowKit
/-- Left of the code with these parts. -/
def leftM (nm : ByteArray) (f k : Int) (L : List (List Int)) (dom : Int) (h : List Bool) : Int :=
  if checkB nm f k L dom = true ∧ (h.length : Int) = k + (L.length : Int) then (searchM (codeM f k L) h).1 else -1
def fatalM (nm : ByteArray) (f k : Int) (L : List (List Int)) (dom : Int) (h : List Bool) : List Nat :=
  if checkB nm f k L dom = true ∧ (h.length : Int) = k + (L.length : Int) then (searchM (codeM f k L) h).2 else []
def lossesM (nm : ByteArray) (f k : Int) (L : List (List Int)) (dom : Int) : Int :=
  if checkB nm f k L dom = true then (searchM (codeM f k L) (List.replicate (codeM f k L).n true)).1 else -1
end Go.GF
namespace Go.Proofs.YtnilepaicnnbhaaGreatDoor
open Go.RowKit Go.GF Go.Sl Go.Shelf

/-- A code, as a value that can be read: valid or not. -/
structure CvAt (w : World) (cv : Array Value) (nm : ByteArray) (f k : Int) (L : List (List Int)) (dom : Int) : Prop where
  at_ : ∃ pv, cv = codeV nm f k pv dom ∧ RowsI w pv L
  nm_ : nm.size ≤ maxLen
  l_ : L.length ≤ 1000
  k_ : 0 ≤ k ∧ k ≤ 1000
theorem CvAt.below {w w' : World} {cv : Array Value} {nm : ByteArray} {f k : Int} {L : List (List Int)} {dom : Int} (h : CvAt w cv nm f k L dom) (hb : Below w.heap.size w w') : CvAt w' cv nm f k L dom := by
  obtain ⟨⟨pv, h1, h2⟩, h3, h4, h5⟩ := h
  exact ⟨⟨pv, h1, h2.below hb⟩, h3, h4, h5⟩
theorem CvAt.code {w : World} {cv : Array Value} {nm : ByteArray} {f k : Int} {L : List (List Int)} {dom : Int} (h : CvAt w cv nm f k L dom) (hc : checkB nm f k L dom = true) : CodeAt w cv (codeM f k L) ∧ ((codeM f k L).n : Int) = k + (L.length : Int) := by
  obtain ⟨⟨pv, rfl, h2⟩, -⟩ := h
  exact code_at hc h2
theorem search_any (cv : Array Value) (c : CodeM) (hv : Value) (h : List Bool) (hl : h.length = c.n) (w : World) (hT : TabF w) (hc : CodeAt w cv c) (hr : RowI w hv (boolsV h)) :
    Calls Tryz.prog 21 #[.agg cv, hv] w fun e w' => ∃ v, e = .returned (.tuple #[.int .i64 (searchM c h).1, v]) ∧ RowI w' v (intsV (natsI (searchM c h).2)) ∧ Below w.heap.size w w' := callsIn_wide.1 (search_in cv c hv h hl w hT hc hr)
theorem validc_any (cv : Array Value) (nm : ByteArray) (f k : Int) (L : List (List Int)) (dom : Int) (n : Int) (w : World) (hT : TabF w) (hc : CvAt w cv nm f k L dom) :
    Calls Tryz.prog 20 #[.agg cv, .int .i64 n] w fun e w' => e = .returned (.bool (checkB nm f k L dom && n == k + (L.length : Int))) ∧ Below w.heap.size w w' := by
  obtain ⟨⟨pv, rfl, hp⟩, h1, h2, h3⟩ := hc
  exact valid_any nm h1 f k pv dom L (by omega) (by omega) n w hT hp
set_option maxRecDepth 20000 in
set_option maxHeartbeats 1000000 in
theorem left_any (cv : Array Value) (nm : ByteArray) (f k : Int) (L : List (List Int)) (dom : Int) (hv : Value) (h : List Bool) (w : World) (hT : TabF w) (hc : CvAt w cv nm f k L dom) (hr : RowI w hv (boolsV h)) :
    Calls Tryz.prog 8 #[.agg cv, hv] w fun e w' => e = .returned (.int .i64 (leftM nm f k L dom h)) ∧ Below w.heap.size w w' := by
  have HV := Lib.hid (fun W (hb : Below w.heap.size w W) => validc_any cv nm f k L dom (h.length : Int) W (hT.below hb) (hc.below hb))
  have HS := Lib.hid (fun W (hb : Below w.heap.size w W) (h1 : checkB nm f k L dom = true) (h2 : (h.length : Int) = k + (L.length : Int)) => search_any cv (codeM f k L) hv h (by have := (hc.code h1).2; omega) W (hT.below hb) ((hc.below hb).code h1).1 (hr.below hb))
  have HCB := Lib.hid (fun t w1 h => code_box w w1 cv t h)
  obtain ⟨⟨pv, rfl, -⟩, -⟩ := hc
  obtain ⟨ao, cap, rfl, -, -, -⟩ := hr
  rw [boolsV_len] at *
  clear hT
  unfold codeV at *
  cases hb : (checkB nm f k L dom && (h.length : Int) == k + (L.length : Int)) with
  | false =>
    have HZ := Lib.hid (show leftM nm f k L dom h = -1 by
      unfold leftM
      rw [if_neg (fun hh => by rw [hh.1, Bool.true_and, beq_eq_false_iff_ne] at hb; exact hb hh.2)])
    rw [hb] at HV
    clear hb
    go_enter Tryz.func8, Tryz.ntmps8
    go_wp2_with (go_at_call 20; refine (HV.out _ (al_below w _)).mono ?_; rintro e w1 ⟨rfl, h1⟩)
    go_ret
    exact ⟨by rw [HZ.out]; rfl, (HCB.out _ w1 h1).2⟩
  | true =>
    have hb2 := hb
    rw [Bool.and_eq_true, beq_iff_eq] at hb2
    have HZ := Lib.hid (show leftM nm f k L dom h = (searchM (codeM f k L) h).1 by unfold leftM; rw [if_pos hb2])
    have HB := Lib.hid hb2
    rw [hb] at HV
    clear hb hb2
    go_enter Tryz.func8, Tryz.ntmps8
    go_wp2_with first
      | (go_at_call 20; refine (HV.out _ (al_below w _)).mono ?_; rintro e w1 ⟨rfl, h1⟩; obtain ⟨hg, hb⟩ := HCB.out _ w1 h1; obtain ⟨c0, c1, c2, c3, c4⟩ := Box.code hg)
      | (go_at_call 21; refine (HS.out w1 hb HB.out.1 HB.out.2).mono ?_; rintro e w2 ⟨v, rfl, h2, h3⟩)
    go_ret
    exact ⟨by rw [HZ.out]; rfl, hb.trans (h3.mono hb.size)⟩
set_option maxRecDepth 20000 in
set_option maxHeartbeats 1000000 in
theorem fatal_any (cv : Array Value) (nm : ByteArray) (f k : Int) (L : List (List Int)) (dom : Int) (hv : Value) (h : List Bool) (w : World) (hT : TabF w) (hc : CvAt w cv nm f k L dom) (hr : RowI w hv (boolsV h)) :
    Calls Tryz.prog 11 #[.agg cv, hv] w fun e w' => ∃ v, e = .returned v ∧ RowI w' v (intsV (natsI (fatalM nm f k L dom h))) ∧ Below w.heap.size w w' := by
  have HV := Lib.hid (fun W (hb : Below w.heap.size w W) => validc_any cv nm f k L dom (h.length : Int) W (hT.below hb) (hc.below hb))
  have HS := Lib.hid (fun W (hb : Below w.heap.size w W) (h1 : checkB nm f k L dom = true) (h2 : (h.length : Int) = k + (L.length : Int)) => search_any cv (codeM f k L) hv h (by have := (hc.code h1).2; omega) W (hT.below hb) ((hc.below hb).code h1).1 (hr.below hb))
  have HCB := Lib.hid (fun t w1 h => code_box w w1 cv t h)
  obtain ⟨⟨pv, rfl, -⟩, -⟩ := hc
  obtain ⟨ao, cap, rfl, -, -, -⟩ := hr
  rw [boolsV_len] at *
  clear hT
  unfold codeV at *
  cases hb : (checkB nm f k L dom && (h.length : Int) == k + (L.length : Int)) with
  | false =>
    have HZ := Lib.hid (show fatalM nm f k L dom h = [] by
      unfold fatalM
      rw [if_neg (fun hh => by rw [hh.1, Bool.true_and, beq_eq_false_iff_ne] at hb; exact hb hh.2)])
    rw [hb] at HV
    clear hb
    go_enter Tryz.func11, Tryz.ntmps11
    go_wp2_with (go_at_call 20; refine (HV.out _ (al_below w _)).mono ?_; rintro e w1 ⟨rfl, h1⟩)
    go_ret
    exact ⟨_, rfl, by rw [HZ.out]; exact ⟨none, 0, rfl, Nat.le_refl _, by unfold maxLen; omega, fun hh => absurd hh (by simp [intsV, natsI])⟩, (HCB.out _ w1 h1).2⟩
  | true =>
    have hb2 := hb
    rw [Bool.and_eq_true, beq_iff_eq] at hb2
    have HZ := Lib.hid (show fatalM nm f k L dom h = (searchM (codeM f k L) h).2 by unfold fatalM; rw [if_pos hb2])
    have HB := Lib.hid hb2
    rw [hb] at HV
    clear hb hb2
    go_enter Tryz.func11, Tryz.ntmps11
    go_wp2_with first
      | (go_at_call 20; refine (HV.out _ (al_below w _)).mono ?_; rintro e w1 ⟨rfl, h1⟩; obtain ⟨hg, hb⟩ := HCB.out _ w1 h1; obtain ⟨c0, c1, c2, c3, c4⟩ := Box.code hg)
      | (go_at_call 21; refine (HS.out w1 hb HB.out.1 HB.out.2).mono ?_; rintro e w2 ⟨v, rfl, h2, h3⟩)
    go_ret
    exact ⟨v, rfl, by rw [HZ.out]; exact h2, hb.trans (h3.mono hb.size)⟩
theorem checkc_any (cv : Array Value) (nm : ByteArray) (f k : Int) (L : List (List Int)) (dom : Int) (w : World) (hc : CvAt w cv nm f k L dom) :
    Calls Tryz.prog 16 #[.agg cv] w fun e w' => (∃ z : Int, e = .returned (.int .i64 z) ∧ (z == 0) = checkB nm f k L dom) ∧ Below w.heap.size w w' := by
  obtain ⟨⟨pv, rfl, hp⟩, h1, h2, h3⟩ := hc
  exact check_any nm h1 f k pv dom L (by omega) (by omega) w hp
theorem left_all {nm : ByteArray} {f k : Int} {L : List (List Int)} {dom : Int} (h : checkB nm f k L dom = true) (hn : ((codeM f k L).n : Int) = k + (L.length : Int)) : leftM nm f k L dom (List.replicate (codeM f k L).n true) = lossesM nm f k L dom := by
  unfold leftM lossesM
  rw [if_pos ⟨h, by rw [List.length_replicate]; exact hn⟩, if_pos h]
set_option maxRecDepth 20000 in
set_option maxHeartbeats 2000000 in
theorem losses_any (cv : Array Value) (nm : ByteArray) (f k : Int) (L : List (List Int)) (dom : Int) (w : World) (hT : TabF w) (hc : CvAt w cv nm f k L dom) :
    Calls Tryz.prog 6 #[.agg cv] w fun e w' => e = .returned (.int .i64 (lossesM nm f k L dom)) ∧ Below w.heap.size w w' := by
  have HC := Lib.hid (fun W (hb : Below w.heap.size w W) => checkc_any cv nm f k L dom W (hc.below hb))
  have HW := Lib.hid (fun W (hb : Below w.heap.size w W) (h1 : checkB nm f k L dom = true) => width_any cv (codeM f k L) W (hT.below hb) ((hc.below hb).code h1).1)
  have HLf := Lib.hid (fun hv h W (hb : Below w.heap.size w W) hr => left_any cv nm f k L dom hv h W (hT.below hb) (hc.below hb) hr)
  have HN := Lib.hid (fun (h1 : checkB nm f k L dom = true) => (hc.code h1).2)
  have HOK := Lib.hid (fun (h1 : checkB nm f k L dom = true) => And.intro (hc.code h1).1.n32 (hc.code h1).1.ok.pos)
  have HCB := Lib.hid (fun t w1 h => code_box w w1 cv t h)
  obtain ⟨⟨pv, rfl, -⟩, -⟩ := hc
  clear hT
  unfold codeV at *
  cases hck : checkB nm f k L dom with
  | false =>
    have HZ := Lib.hid (show lossesM nm f k L dom = -1 by unfold lossesM; rw [if_neg (by rw [hck]; simp)])
    go_enter Tryz.func6, Tryz.ntmps6
    go_wp2_with (go_at_call 16; refine (HC.out _ (al_below w _)).mono ?_; rintro e w1 ⟨⟨z, rfl, hz⟩, h1⟩; rw [hck] at hz; have hz2 : (z != 0) = true := by rw [bne, hz]; rfl)
    go_ret
    exact ⟨by rw [HZ.out]; rfl, (HCB.out _ w1 h1).2⟩
  | true =>
    have HZ := Lib.hid (left_all hck (HN.out hck))
    have HK := Lib.hid hck
    have HO := Lib.hid (HOK.out hck)
    clear hck HN HOK
    go_enter Tryz.func6, Tryz.ntmps6
    go_upto_region 3 with (go_at_call 16; refine (HC.out _ (al_below w _)).mono ?_; rintro e w1 ⟨⟨z, rfl, hz⟩, h1⟩; rw [HK.out] at hz; have hz2 : (z != 0) = false := by rw [bne, hz]; rfl)
    all_goals try contradiction
    obtain ⟨hg, hb⟩ := HCB.out _ w1 h1
    have HG := Lib.hid (And.intro hg hb)
    clear h1 hz hz2 hg hb
    have hS0 : Below w1.heap.size w1 w1.drew := (Below.refl _ w1).drew
    refine reg_begin (fun w' => Below w1.heap.size w1 w') (by kernel_rfl) ?_
    obtain ⟨W0, hW0⟩ : ∃ W0, w1.drew = W0 := ⟨_, rfl⟩
    rw [hW0] at hS0 ⊢
    clear hW0
    refine reg_take 0 (v := .agg #[.string nm, .int .i64 f, .int .i64 k, pv, .int .i64 dom]) rfl rfl (by decide +kernel) rfl (fun w' h => exec_ldC rfl rfl (HG.out.1.below h)) hS0 ?_; simp only [List.setIfInBounds_toArray, List.set_cons_succ, List.set_cons_zero]
    refine reg_take 2 (v := .agg #[.string nm, .int .i64 f, .int .i64 k, pv, .int .i64 dom]) rfl rfl (by decide +kernel) rfl (fun w' h => exec_ldC rfl rfl (HG.out.1.below h)) hS0 ?_; simp only [List.setIfInBounds_toArray, List.set_cons_succ, List.set_cons_zero]
    refine reg_fork 1 3 (by decide +kernel) ?_ ?_
    · have hSA : Below w1.heap.size w1 (W0.alloc (.cells #[.bool true] TB)) := hS0.trans ((al_below W0 _).mono hS0.size)
      refine rstep_run (.slice (some ⟨W0.heap.size, 0, none⟩) 1 1) (W0.alloc (.cells #[.bool true] TB)) rfl rfl (by decide +kernel) rfl (by go_simp) hSA ?_
      simp only [List.setIfInBounds_toArray, List.set_cons_succ, List.set_cons_zero]
      have hqa : (W0.alloc (.cells #[.bool true] TB)).cell? ⟨W0.heap.size, 0, none⟩ = some (.bool true) := by
        unfold World.cell?
        rw [show (W0.alloc (.cells #[.bool true] TB)).heap[W0.heap.size]? = _ from World.alloc_heap_new W0 _]; rfl
      refine reg_call 3 rfl rfl (by decide +kernel) rfl (f := 18) (args := #[.agg #[.string nm, .int .i64 f, .int .i64 k, pv, .int .i64 dom]]) (R := fun v w' => v = .int .i64 (((codeM f k L).n : Nat) : Int) ∧ Below (W0.alloc (.cells #[.bool true] TB)).heap.size (W0.alloc (.cells #[.bool true] TB)) w') (by kernel_rfl) ((HW.out (W0.alloc (.cells #[.bool true] TB)) (HG.out.2.trans (hSA.mono HG.out.2.size)) HK.out).mono fun e w' h => ⟨_, h.1, rfl, h.2⟩) ?_
      rintro _ w4 ⟨rfl, hb4⟩
      have hS4 := hSA.trans (hb4.mono hSA.size)
      refine ⟨hS4, ?_⟩
      simp only [List.setIfInBounds_toArray, List.set_cons_succ, List.set_cons_zero]
      refine reg_call 4 rfl rfl (by decide +kernel) rfl (f := 17) (args := #[.slice (some ⟨W0.heap.size, 0, none⟩) 1 1, .int .i64 (((codeM f k L).n : Nat) : Int)]) (R := fun v w' => RowI w' v (boolsV (List.replicate (codeM f k L).n true)) ∧ Below w1.heap.size w1 w') (by kernel_rfl) ((repeat_any (codeM f k L).n (by have := HO.out.2; unfold CodeM.n; omega) (by have := HO.out.1; omega) W0.heap.size 1 w4 ((hb4.cell (p := ⟨W0.heap.size, 0, none⟩) (World.block_lt_of_cell? _ _ hqa)).trans hqa)).mono fun e w' h => ?_) ?_
      · obtain ⟨v, h1, h2, h3⟩ := h
        exact ⟨v, h1, h2, hS4.trans (h3.mono hS4.size)⟩
      rintro v5 w5 ⟨hr5, hb5⟩
      refine ⟨hb5, ?_⟩
      simp only [List.setIfInBounds_toArray, List.set_cons_succ, List.set_cons_zero]
      refine reg_call 5 rfl rfl (by decide +kernel) rfl (f := 8) (args := #[.agg #[.string nm, .int .i64 f, .int .i64 k, pv, .int .i64 dom], v5]) (R := fun v w' => v = .int .i64 (lossesM nm f k L dom) ∧ Below w1.heap.size w1 w') (by kernel_rfl) ((HLf.out v5 _ w5 (HG.out.2.trans (hb5.mono HG.out.2.size)) hr5).mono fun e w' h => ⟨_, h.1, by rw [HZ.out], hb5.trans (h.2.mono hb5.size)⟩) ?_
      rintro _ w6 ⟨rfl, hb6⟩
      refine ⟨hb6, ?_⟩
      simp only [List.setIfInBounds_toArray, List.set_cons_succ, List.set_cons_zero]
      refine reg_run_last 6 (.int .i64 (lossesM nm f k L dom)) (w6) rfl rfl (by decide +kernel) rfl (by go_simp) ?_; simp only [List.setIfInBounds_toArray, List.set_cons_succ, List.set_cons_zero]
      go_wp2
      go_ret
      exact ⟨rfl, HG.out.2.trans (hb6.mono HG.out.2.size)⟩
    · refine rstep_call rfl rfl (by decide +kernel) rfl (f := 18) (args := #[.agg #[.string nm, .int .i64 f, .int .i64 k, pv, .int .i64 dom]]) (R := fun v w' => v = .int .i64 (((codeM f k L).n : Nat) : Int) ∧ Below W0.heap.size W0 w') (by kernel_rfl) ((HW.out W0 (HG.out.2.trans (hS0.mono HG.out.2.size)) HK.out).mono fun e w' h => ⟨_, h.1, rfl, h.2⟩) ?_
      rintro _ w4 ⟨rfl, hb4⟩
      have hS4 := hS0.trans (hb4.mono hS0.size)
      refine ⟨hS4, ?_⟩
      simp only [List.setIfInBounds_toArray, List.set_cons_succ, List.set_cons_zero]
      have hSA : Below w1.heap.size w1 (w4.alloc (.cells #[.bool true] TB)) := hS4.trans ((al_below w4 _).mono hS4.size)
      refine reg_run 1 (.slice (some ⟨w4.heap.size, 0, none⟩) 1 1) (w4.alloc (.cells #[.bool true] TB)) rfl rfl (by decide +kernel) rfl (by go_simp) hSA ?_
      simp only [List.setIfInBounds_toArray, List.set_cons_succ, List.set_cons_zero]
      have hqa : (w4.alloc (.cells #[.bool true] TB)).cell? ⟨w4.heap.size, 0, none⟩ = some (.bool true) := by
        unfold World.cell?
        rw [show (w4.alloc (.cells #[.bool true] TB)).heap[w4.heap.size]? = _ from World.alloc_heap_new w4 _]; rfl
      refine reg_call 4 rfl rfl (by decide +kernel) rfl (f := 17) (args := #[.slice (some ⟨w4.heap.size, 0, none⟩) 1 1, .int .i64 (((codeM f k L).n : Nat) : Int)]) (R := fun v w' => RowI w' v (boolsV (List.replicate (codeM f k L).n true)) ∧ Below w1.heap.size w1 w') (by kernel_rfl) ((repeat_any (codeM f k L).n (by have := HO.out.2; unfold CodeM.n; omega) (by have := HO.out.1; omega) w4.heap.size 1 (w4.alloc (.cells #[.bool true] TB)) hqa).mono fun e w' h => ?_) ?_
      · obtain ⟨v, h1, h2, h3⟩ := h
        exact ⟨v, h1, h2, hSA.trans (h3.mono hSA.size)⟩
      rintro v5 w5 ⟨hr5, hb5⟩
      refine ⟨hb5, ?_⟩
      simp only [List.setIfInBounds_toArray, List.set_cons_succ, List.set_cons_zero]
      refine reg_call 5 rfl rfl (by decide +kernel) rfl (f := 8) (args := #[.agg #[.string nm, .int .i64 f, .int .i64 k, pv, .int .i64 dom], v5]) (R := fun v w' => v = .int .i64 (lossesM nm f k L dom) ∧ Below w1.heap.size w1 w') (by kernel_rfl) ((HLf.out v5 _ w5 (HG.out.2.trans (hb5.mono HG.out.2.size)) hr5).mono fun e w' h => ⟨_, h.1, by rw [HZ.out], hb5.trans (h.2.mono hb5.size)⟩) ?_
      rintro _ w6 ⟨rfl, hb6⟩
      refine ⟨hb6, ?_⟩
      simp only [List.setIfInBounds_toArray, List.set_cons_succ, List.set_cons_zero]
      refine reg_run_last 6 (.int .i64 (lossesM nm f k L dom)) (w6) rfl rfl (by decide +kernel) rfl (by go_simp) ?_; simp only [List.setIfInBounds_toArray, List.set_cons_succ, List.set_cons_zero]
      go_wp2
      go_ret
      exact ⟨rfl, HG.out.2.trans (hb6.mono HG.out.2.size)⟩
end Go.Proofs.YtnilepaicnnbhaaGreatDoor

/- distance.Racks. Printed by kl.py. -/
namespace Go.GF
open Go Go.RowKit
theorem firstN_none {α : Type} {dec : List α → Bool} {l : List α} {N f : Nat} (hf : f < N) (h : ∀ s ∈ subsL l (f + 1), dec s = true) : firstL dec l (N - f) f = firstL dec l (N - (f + 1)) (f + 1) := by
  rw [show N - f = (N - (f + 1)) + 1 by omega]
  unfold firstL
  have : (subsL l (f + 1)).find? (fun s => !dec s) = none := by
    rw [List.find?_eq_none]
    intro s hs; simp [h s hs]
  rw [this]
  show firstL dec l (N - (f + 1)) (f + 1) = _
  cases N - (f + 1) <;> rfl
theorem firstN_some {α : Type} {dec : List α → Bool} {l : List α} {N f i : Nat} (hf : f < N) {s : List α} (hs : (subsL l (f + 1))[i]? = some s) (hd : dec s = false) (h : ∀ j t, j < i → (subsL l (f + 1))[j]? = some t → dec t = true) : firstL dec l (N - f) f = (f, s) := by
  rw [show N - f = (N - (f + 1)) + 1 by omega]
  unfold firstL
  have : (subsL l (f + 1)).find? (fun s => !dec s) = some s := by
    rw [List.find?_eq_some_iff_getElem]
    obtain ⟨hi, he⟩ := List.getElem?_eq_some_iff.1 hs
    refine ⟨by simp [hd], i, hi, he, fun j hj => ?_⟩
    have := h j _ hj (List.getElem?_eq_getElem (by omega))
    simp [this]
  rw [this]
theorem resultsJ1 {P : Program} {tmps : Array Value} {w : World} {fn : Func} {r1 : ResultVar} {v1 : Value} (h : fn.results = #[r1]) (h1 : ResJ P tmps w r1 v1) : (results fn tmps).run P w = .ok v1 w := by
  cases h1 <;> simp_all [results, asAddr]
theorem firstL_zero {α : Type} (dec : List α → Bool) (l : List α) (f : Nat) : firstL dec l 0 f = (f, []) := by unfold firstL; rfl
/-- What is there when the racks of a set are lost: as far as unit i. -/
def lostK (racks s : List Int) (i : Nat) : List Bool := (racks.take i).map (fun k => !decide (k ∈ s)) ++ List.replicate (racks.length - i) false
theorem lostK_zero (racks s : List Int) : lostK racks s 0 = List.replicate racks.length false := by unfold lostK; simp
theorem lostK_len {racks s : List Int} {i : Nat} (h : i ≤ racks.length) : (lostK racks s i).length = racks.length := by unfold lostK; simp; omega
theorem lostK_step {racks s : List Int} {i : Nat} {x : Int} (hx : racks[i]? = some x) : (lostK racks s i).set i (!decide (x ∈ s)) = lostK racks s (i + 1) := by
  have hi := (List.getElem?_eq_some_iff.1 hx).1
  unfold lostK
  rw [List.set_append_right _ _ (by simp; omega), List.length_map, List.length_take, Nat.min_eq_left (by omega), Nat.sub_self, show racks.length - i = (racks.length - (i + 1)) + 1 by omega, List.replicate_succ, List.set_cons_zero, List.take_add_one, hx, Option.toList_some, List.map_append]
  simp
theorem lostK_all (racks s : List Int) : lostK racks s racks.length = lostR racks s := by
  unfold lostK lostR
  rw [List.take_length, Nat.sub_self, List.replicate_zero, List.append_nil]
  refine List.map_congr_left fun k _ => ?_
  rw [List.contains_eq_mem]
/-- Racks of the code with these parts. -/
def racksI (nm : ByteArray) (f k : Int) (L : List (List Int)) (dom : Int) (racks : List Int) : Int :=
  if checkB nm f k L dom = true ∧ (racks.length : Int) = k + (L.length : Int) then ((racksM (codeM f k L) (namesL racks) racks : Nat) : Int) else -1
end Go.GF
namespace Go.Proofs.YtnilepaicnnbhaaGreatDoor
open Go.RowKit Go.GF Go.Sl Go.Shelf
attribute [local go_sem] Oper.semAt_some

/-- The caller's boxes: the code, the racks, the result. -/
structure RkE (w0 : World) (g2 g3 g4 : Nat) (cv0 : Array Value) (rv : Value) (wr : World) : Prop where
  b2 : Box wr g2 cv0
  b3 : Box wr g3 #[rv]
  b4 : Box wr g4 #[.int .i64 0]
  bl : Below w0.heap.size w0 wr
  lo : w0.heap.size ≤ g4 ∧ g4 ≠ g2 ∧ g4 ≠ g3
theorem RkE.lt {w0 : World} {g2 g3 g4 : Nat} {cv0 : Array Value} {rv : Value} {A : World} (h : RkE w0 g2 g3 g4 cv0 rv A) : g2 < A.heap.size ∧ g3 < A.heap.size ∧ g4 < A.heap.size ∧ w0.heap.size ≤ A.heap.size := ⟨h.b2.lt, h.b3.lt, h.b4.lt, h.bl.size⟩
theorem RkE.below {w0 : World} {g2 g3 g4 : Nat} {cv0 : Array Value} {rv : Value} {A C : World} (h : RkE w0 g2 g3 g4 cv0 rv A) (hb : Below A.heap.size A C) : RkE w0 g2 g3 g4 cv0 rv C :=
  ⟨h.b2.below hb, h.b3.below hb, h.b4.below hb, h.bl.trans (hb.mono h.bl.size), h.lo⟩
theorem RkE.res {w0 : World} {g2 g3 g4 : Nat} {cv0 : Array Value} {rv : Value} {A : World} (h : RkE w0 g2 g3 g4 cv0 rv A) : A.cell? ⟨g4, 0, none⟩ = some (.int .i64 0) ∧ A.frozen? ⟨g4, 0, none⟩ = false ∧ A.cell? ⟨g3, 0, none⟩ = some rv := ⟨h.b4.cell 0, h.b4.free 0, h.b3.cell 0⟩
theorem rk_start (w : World) (cv0 : Array Value) (rv : Value) (t1 t2 t3 : TypeId) :
    RkE w w.heap.size (w.heap.size + 1) (w.heap.size + 1 + 1) cv0 rv (((w.alloc (.cells cv0 t1)).alloc (.cells #[rv] t2)).alloc (.cells #[.int .i64 0] t3)) := by
  have e1 := World.alloc_heap_new w (.cells cv0 t1)
  have e2 := World.alloc_heap_new (w.alloc (.cells cv0 t1)) (.cells #[rv] t2)
  have e3 := World.alloc_heap_new ((w.alloc (.cells cv0 t1)).alloc (.cells #[rv] t2)) (.cells #[.int .i64 0] t3)
  simp only [World.size_alloc] at e2 e3
  have b1 := al_below w (.cells cv0 t1)
  have b2 := al_below (w.alloc (.cells cv0 t1)) (.cells #[rv] t2)
  have b3 := al_below ((w.alloc (.cells cv0 t1)).alloc (.cells #[rv] t2)) (.cells #[.int .i64 0] t3)
  simp only [World.size_alloc] at b2 b3
  exact ⟨⟨t1, (b3.block _ (by omega)).trans ((b2.block _ (by omega)).trans e1)⟩, ⟨t2, (b3.block _ (by omega)).trans e2⟩, ⟨t3, e3⟩,
    b1.trans ((b2.mono (by omega)).trans (b3.mono (by omega))), by omega, by omega, by omega⟩
/-- The result is laid. -/
structure RkD (w0 : World) (g4 : Nat) (z : Int) (wr : World) : Prop where
  c4 : wr.cell? ⟨g4, 0, none⟩ = some (.int .i64 z)
  bl : Below w0.heap.size w0 wr
theorem RkD.keep {w0 : World} {g4 B : Nat} {z : Int} {A C : World} (h : RkD w0 g4 z A) (hk : KpB B A C) (hB : w0.heap.size ≤ B) : RkD w0 g4 z C := ⟨hk.cell h.c4, h.bl.trans (hk.bl.mono hB)⟩
theorem RkE.set {w0 : World} {g2 g3 g4 : Nat} {cv0 : Array Value} {rv : Value} {A : World} (h : RkE w0 g2 g3 g4 cv0 rv A) (z : Int) :
    RkD w0 g4 z (A.setCell ⟨g4, 0, none⟩ (.int .i64 z)) ∧ ∀ k, k ≠ g4 → (A.setCell ⟨g4, 0, none⟩ (.int .i64 z)).heap[k]? = A.heap[k]? := by
  obtain ⟨t4, h4⟩ := h.b4
  have s4 := heap_setCell_same A g4 0 _ t4 (.int .i64 z) h4
  refine ⟨⟨by unfold World.cell?; simp only [s4]; rfl, ?_⟩, fun k k4 => heap_setCell_other _ _ _ _ k4⟩
  exact h.bl.trans ((Below.refl w0.heap.size A).setCell (p := ⟨g4, 0, none⟩) h.lo.1 _)
theorem rk_leave {w0 : World} {g4 : Nat} {z : Int} {wr : World} {Ds : List Nat} {tmps : Array Value} {F : Fence} {n : Nat} {R : Ending → World → Prop} (hd : RkD w0 g4 z wr) (hm : Ds.Nodup ∧ ∀ D ∈ Ds, w0.heap.size ≤ D ∧ wr.heap[D]? = some (.deferred (some [])))
    (h4 : tmps.getD 4 undef = .pointer (some ⟨g4, 0, none⟩)) (hR : ∀ w', KpB w0.heap.size wr w' → R (.returned (.int .i64 z)) w') :
    LeavesInM F n Tryz.prog Tryz.f13 tmps R (Ds.map fun D => ({ target := .collected D, args := #[] } : Deferred)) .returning wr :=
  leaves_marks Ds wr hm.1 hm.2 fun w' hw' => ⟨_, resultsJ1 Tryz.results13 (ResJ.cell h4 (run_loadVar1 Tryz.underlying3 rfl (hd.keep hw' (Nat.le_refl _)).c4)), hR w' hw'⟩
/-- Between two rounds of the range: the first i sets are not fatal. -/
structure RkI (w5 : World) (dec : List Int → Bool) (us : List Int) (f i : Nat) (W : World) : Prop where
  bl : Below w5.heap.size w5 W
  ok : ∀ (j : Nat) (t : List Int), j < i → (subsL us (f + 1))[j]? = some t → dec t = true
structure RkX (w0 w5 : World) (g4 : Nat) (dec : List Int → Bool) (us : List Int) (f : Nat) (c : Code) (W : World) : Prop where
  ret : c = .ret
  kp : ∀ k, k < w5.heap.size → k ≠ g4 → W.heap[k]? = w5.heap[k]?
  st : ∃ (i : Nat) (t : List Int), (subsL us (f + 1))[i]? = some t ∧ dec t = false ∧ (∀ (j : Nat) (t : List Int), j < i → (subsL us (f + 1))[j]? = some t → dec t = true) ∧ RkD w0 g4 (f : Int) W
/-- Between two rounds of the inner loop. -/
structure RkL (W : World) (have_ : Value) (racks t : List Int) (v : Value) (wr : World) : Prop where
  st : ∃ k : Nat, k ≤ racks.length ∧ v = .int .i64 (k : Int) ∧ OwnB W.heap.size wr have_ (lostK racks t k) ∧ Below W.heap.size W wr
structure RkO (w0 : World) (g2 g3 g4 : Nat) (cv0 : Array Value) (rv uv : Value) (dec : List Int → Bool) (us : List Int) (N : Nat) (a : Act) (wr : World) : Prop where
  st : ∃ (f : Nat) (Ds : List Nat) (u6 u7 u8 u9 u10 u11 u12 u13 u14 u15 u16 u17 u18 u19 u20 u21 u24 u25 u26 u27 u28 u29 u30 u31 u32 u33 u34 u35 u36 u37 u38 u39 u40 u41 u42 u43 u44 u45 u46 u47 u48 u49 u50 u51 u52 u53 u54 u55 u56 u57 : Value), f ≤ N ∧ a = { tmps := #[.agg cv0, rv, .pointer (some ⟨g2, 0, none⟩), .pointer (some ⟨g3, 0, none⟩), .pointer (some ⟨g4, 0, none⟩), uv, u6, u7, u8, u9, u10, u11, u12, u13, u14, u15, u16, u17, u18, u19, u20, u21, .int .i64 (N : Int), .int .i64 (f : Int), u24, u25, u26, u27, u28, u29, u30, u31, u32, u33, u34, u35, u36, u37, u38, u39, u40, u41, u42, u43, u44, u45, u46, u47, u48, u49, u50, u51, u52, u53, u54, u55, u56, u57], defers := Ds.map fun D => ({ target := .collected D, args := #[] } : Deferred) } ∧
    RkE w0 g2 g3 g4 cv0 rv wr ∧ RowI wr uv (intsV us) ∧ firstL dec us N 0 = firstL dec us (N - f) f ∧ MarksAt w0.heap.size Ds wr
set_option maxRecDepth 100000 in
set_option maxHeartbeats 8000000 in
theorem racks_in (cv : Array Value) (nm : ByteArray) (fI kI : Int) (L : List (List Int)) (dom : Int) (rv : Value) (racks : List Int) (hrl : racks.length ≤ 1000) (w : World) (hT : TabF w) (hc : CvAt w cv nm fI kI L dom) (hr : RowI w rv (intsV racks)) :
    CallsIn Fence.wide 8 Tryz.prog 13 #[.agg cv, rv] w fun e w' => e = .returned (.int .i64 (racksI nm fI kI L dom racks)) ∧ Below w.heap.size w w' := by
  have hF := free_wide Tryz.prog
  have hfn : ∀ f, Fence.wide.fn f := hF.fn
  have hro := hF.round
  have hdd : ∀ k : Nat, (Fence.wide.depth.isSome = true → 1 ≤ k) := fun k h => by rw [hF.depth] at h; cases h
  have HV := Lib.hid (fun W (hb : Below w.heap.size w W) => validc_any cv nm fI kI L dom (racks.length : Int) W (hT.below hb) (hc.below hb))
  have HR := Lib.hid hr
  have HC := Lib.hid hc
  have HTB := Lib.hid hT
  obtain ⟨⟨pv, rfl, hp⟩, -⟩ := hc
  obtain ⟨ao, cap, rfl, -, -, -⟩ := hr
  rw [intsV_len] at *
  clear hp hT
  have HST := Lib.hid (rk_start w (codeV nm fI kI pv dom) (.slice ao racks.length cap))
  unfold codeV at *
  refine callsIn_of_wp_marks Tryz.func13 rfl (hfn _) ?_ hro
  simp only [Tryz.ntmps13, List.size_toArray, List.length_cons, List.length_nil, Nat.reduceAdd, Nat.reduceSub, Array.replicate_succ, Array.replicate_zero, List.push_toArray, List.append_toArray, List.nil_append, List.cons_append]
  gi_upto_region 1 with (fail)
  have HE := Lib.hid (HST.out 24 26 TI)
  clear HST
  obtain ⟨W4, hW4⟩ : ∃ W4, ((w.alloc (.cells #[.string nm, .int .i64 fI, .int .i64 kI, pv, .int .i64 dom] 24)).alloc (.cells #[.slice ao racks.length cap] 26)).alloc (.cells #[.int .i64 0] TI) = W4 := ⟨_, rfl⟩
  rw [hW4] at HE ⊢
  clear hW4
  generalize w.heap.size + 1 + 1 = g4 at HE ⊢
  generalize w.heap.size + 1 = g3 at HE ⊢
  obtain ⟨g2, hg2⟩ : ∃ g2, w.heap.size = g2 := ⟨_, rfl⟩
  rw [hg2] at HE ⊢
  clear hg2
  obtain ⟨c0, c1, c2, c3, c4⟩ := HE.out.b2.code
  obtain ⟨-, -, d0⟩ := HE.out.res
  cases hb : (checkB nm fI kI L dom && (racks.length : Int) == kI + (L.length : Int)) with
  | false =>
    have HZ := Lib.hid (show racksI nm fI kI L dom racks = -1 by
      unfold racksI
      rw [if_neg (fun hh => by rw [hh.1, Bool.true_and, beq_eq_false_iff_ne] at hb; exact hb hh.2)])
    rw [hb] at HV
    clear hb
    gi_wp2_with ((try refine ⟨hdd _, ?_⟩); gi_at_call 20; refine (hF.calls _ _ _ _ _ (HV.out W4 HE.out.bl)).mono ?_; rintro e w1 ⟨rfl, h1⟩; have HE1 := Lib.hid (HE.out.below h1); obtain ⟨r1, r2, -⟩ := HE1.out.res; have hl4 := HE1.out.lt.2.2.1)
    obtain ⟨hD, -⟩ := HE1.out.set (-1)
    refine rk_leave (Ds := []) hD ⟨List.nodup_nil, by simp⟩ rfl fun w' hw' => ?_
    rw [HZ.out]
    exact ⟨rfl, (hD.keep hw' (Nat.le_refl _)).bl⟩
  | true =>
    have hb2 := hb
    rw [Bool.and_eq_true, beq_iff_eq] at hb2
    have HCA := Lib.hid (HC.out.code hb2.1)
    have HRN := Lib.hid (show racks.length = (codeM fI kI L).n by have := HCA.out.2; omega)
    have HZ := Lib.hid (show racksI nm fI kI L dom racks = (((firstL (fun s => decL (codeM fI kI L) (lostR racks s)) (namesL racks) (min 4 (namesL racks).length) 0).1 : Nat) : Int) by unfold racksI racksM; rw [if_pos hb2])
    have HDC := Lib.hid (fun h' (hl' : h'.length = (codeM fI kI L).n) v W (hb : Below w.heap.size w W) (hv : RowI W v (boolsV h')) => decodable_any _ (codeM fI kI L) v h' hl' W (HTB.out.below hb) (HCA.out.1.below hb) hv)
    rw [hb] at HV
    clear hb hb2
    generalize codeM fI kI L = c at HCA HRN HZ HDC
    gi_wp2_with first
      | ((try refine ⟨hdd _, ?_⟩); gi_at_call 20; refine (hF.calls _ _ _ _ _ (HV.out W4 HE.out.bl)).mono ?_; rintro e w1 ⟨rfl, h1⟩; have HE1 := Lib.hid (HE.out.below h1); obtain ⟨-, -, d1⟩ := HE1.out.res)
      | ((try refine ⟨hdd _, ?_⟩); gi_at_call 28; refine (hF.calls _ _ _ _ _ (values_any ao racks.length cap w1)).mono ?_; rintro e w2 ⟨gv, rfl, v1, v2⟩)
      | ((try refine ⟨hdd _, ?_⟩); gi_at_call 27; refine (hF.calls _ _ _ _ _ (sorted_any 48 #[.pointer (some ⟨gv, 0, none⟩)] (fun args w => by kernel_rfl) racks (by omega) w2 (fun w' m hb' => SeqRows.later (values_seq hF m (.slice ao racks.length cap) racks (by omega) gv w2 v1 ((HR.out.below HE1.out.bl).below v2)) hb'))).mono ?_; rintro e w3 ⟨sv, rfl, s1, s2⟩)
      | ((try refine ⟨hdd _, ?_⟩); gi_at_call 26; refine (hF.calls _ _ _ _ _ (compact_any w2.heap.size sv (sortI racks) (by rw [sortI_len]; omega) w3 s1)).mono ?_; rintro e w4 ⟨uv, rfl, u1, u2⟩; have HE4 := Lib.hid (show RkE w g2 g3 g4 #[.string nm, .int .i64 fI, .int .i64 kI, pv, .int .i64 dom] (.slice ao racks.length cap) w4 from (HE1.out.below v2).below (s2.trans u2)); have HU4 := Lib.hid (show RowI w4 uv (intsV (namesL racks)) from u1.row); obtain ⟨aou, cpu, rfl⟩ := u1.shape; rw [show (compactL (sortI racks)).length = (namesL racks).length from rfl])
    rw [show (compactL (sortI racks)).length = (namesL racks).length from rfl] at *
    have HNL := Lib.hid (names_len racks)
    obtain ⟨names, hnames⟩ : ∃ names, namesL racks = names := ⟨_, rfl⟩
    rw [hnames] at HU4 HNL HZ ⊢
    obtain ⟨N, hN⟩ : ∃ N, min 4 names.length = N := ⟨_, rfl⟩
    have hNI : min (4 : Int) (names.length : Int) = (N : Int) := by omega
    rw [hN] at HZ
    rw [hNI]
    have HNN := Lib.hid (And.intro hN hNI)
    have hN4 : N ≤ 4 := by omega
    have hrlI : (racks.length : Int) ≤ 1000 := by omega
    clear u1 u2 s1 s2 v1 v2 h1 hnames d0 d1 c0 c1 c2 c3 c4 HE1 HE hN hNI
    refine wpIn_loop (fun a wr => RkO w g2 g3 g4 #[.string nm, .int .i64 fI, .int .i64 kI, pv, .int .i64 dom] (.slice ao racks.length cap) (.slice aou names.length cpu) (fun s => decL c (lostR racks s)) names N a wr) (fun a _ => N - (intOf (a.tmps.getD 23 undef)).toNat) ?start ?round
    case start => exact ⟨⟨0, [], _, _, _, _, _, _, _, _, _, _, _, _, _, _, _, _, _, _, _, _, _, _, _, _, _, _, _, _, _, _, _, _, _, _, _, _, _, _, _, _, _, _, _, _, _, _, _, _, _, _, Nat.zero_le _, rfl, HE4.out, HU4.out, rfl, List.nodup_nil, by simp⟩⟩
    case round =>
      clear HE4 HU4
      rintro a wr ⟨⟨f, Ds, u6, u7, u8, u9, u10, u11, u12, u13, u14, u15, u16, u17, u18, u19, u20, u21, u24, u25, u26, u27, u28, u29, u30, u31, u32, u33, u34, u35, u36, u37, u38, u39, u40, u41, u42, u43, u44, u45, u46, u47, u48, u49, u50, u51, u52, u53, u54, u55, u56, u57, hf, rfl, hE, hu, hfl, hm⟩⟩
      have HFL := Lib.hid hfl
      have HM := Lib.hid hm
      have HEr := Lib.hid hE
      have HUr := Lib.hid hu
      clear hfl hm hu hE
      by_cases hlt : f < N
      · have hltd : decide ((f : Int) < (N : Int)) = true := decide_eq_true (by omega)
        have hwf : IntKind.i64.wrap ((f : Int) + 1) = (f : Int) + 1 := IntWalk.i64_in _ (by omega)
        have HLT := Lib.hid hlt
        clear hlt hf
        gi_wp2_with ((try refine ⟨hdd _, ?_⟩); gi_at_call 29; refine (hF.calls _ _ _ _ _ (subsets_any aou names.length cpu ((f : Int) + 1) _)).mono ?_; rintro e w5 ⟨bl, bk, rfl, k1, k2, k3⟩)
        have HB7 := Lib.hid (show Box w5 wr.heap.size #[.int .i64 (f : Int)] from Box.below ⟨TI, World.alloc_heap_new wr _⟩ k3)
        have hb5 : Below wr.heap.size wr w5 := (al_below wr _).trans (k3.mono (al_below wr _).size)
        have HE5 := Lib.hid (HEr.out.below hb5)
        have HU5 := Lib.hid (HUr.out.below hb5)
        have HM5 := Lib.hid (HM.out.below hb5)
        have HBK := Lib.hid (And.intro k1 k2)
        clear k1 k2 k3 hb5 HEr HUr HM
        generalize wr.heap.size = g7 at HB7 ⊢
        have HMD := Lib.hid (fun D (hD : D ∈ Ds) => (Array.getElem?_eq_some_iff.1 (HM5.out.2 D hD).2).1)
        refine' wpIn_rangeFunc_rows hro (by omega) (gf := 49) (lb := #[.pointer (some ⟨bk, 0, none⟩), .pointer (some ⟨bl, 0, none⟩)]) rfl (hfn _) (fun args w => by kernel_rfl)
          (subsets_seq hF _ (.slice aou names.length cpu) names (by have := HNL.out; omega) (f + 1) (by have := HLT.out; omega) bk bl w5 (by rw [Int.natCast_add]; exact HBK.out.1) HBK.out.2 HU5.out) (fun A B C h k => h.trans k) (fun A B h => h.mono (Nat.zero_le _)) (Below.refl _ _) rfl (fun i x A B h hk => SubR.keep h hk)
          (fun i W => RkI w5 (fun s => decL c (lostR racks s)) names f i W) (fun c' W => RkX w w5 g4 (fun s => decL c (lostR racks s)) names f c' W) ?hI ?hIx ?h0 _ ?assign ?body ?done ?stop
        case hI =>
          rintro i A B ⟨h1, h3⟩ hz hb
          exact ⟨h1.trans hb.bl, h3⟩
        case hIx =>
          rintro c' A B ⟨h1, h7, i, t, h2, h3, h4, h5⟩ hz hk
          exact ⟨h1, fun k k1 k2 => (hk.bl.block k k1).trans (h7 k k1 k2), i, t, h2, h3, h4, h5.keep hk HE5.out.lt.2.2.2⟩
        case h0 => exact ⟨Below.refl _ _, fun j t hj => absurd hj (by omega)⟩
        case assign =>
          intro l x W K hK
          gi_wp2
          exact hK
        case body =>
          rintro l i x W hiN ⟨hbl5, hall⟩ hz ⟨t, ht, hown⟩
          have hE := HE5.out.below hbl5
          have hb7 := HB7.out.below hbl5
          have HT := Lib.hid (And.intro ht hall)
          have HROW := Lib.hid (show RowI W x (intsV t) from hown.row)
          have HBL5 := Lib.hid hbl5
          have HTL := Lib.hid (show t.length ≤ 100000 by have := (mem_subsL.1 (List.mem_of_getElem? ht)).2; have := HLT.out; omega)
          have HE0 := Lib.hid (And.intro hE hb7)
          have HN0 := Lib.hid (show ∀ j t', j < i + 1 → (subsL names (f + 1))[j]? = some t' → decL c (lostR racks t) = true → decL c (lostR racks t') = true from fun j t' hj hjt hd => by
            rcases Nat.lt_or_ge j i with h1 | h1
            · exact hall j t' h1 hjt
            · obtain rfl : j = i := by omega
              rw [ht] at hjt; cases hjt; exact hd)
          obtain ⟨-, -, d0⟩ := hE.res
          have HMK := fun W => run_mkB racks.length (by omega) W
          clear hE hb7 hall hown ht hiN hbl5
          obtain ⟨-, -, d9⟩ := (HE0.out.1.below (al_below W (.cells (Array.replicate racks.length (.bool false)) TB))).res
          gi_wp2
          have HS8 := Lib.hid (show RkL W (.slice (some ⟨W.heap.size, 0, none⟩) racks.length racks.length) racks t (.int .i64 ((0 : Nat) : Int)) (W.alloc (.cells (Array.replicate racks.length (.bool false)) TB)) from by
            refine ⟨⟨0, Nat.zero_le _, rfl, ?_, al_below W _⟩⟩
            rw [lostK_zero]
            refine ⟨by rw [boolsV_len, Nat.mul_one], .inr ⟨W.heap.size, racks.length, Array.replicate racks.length (.bool false), by rw [List.length_replicate], Nat.le_refl _, World.alloc_heap_new W _, by rw [List.length_replicate]; exact Nat.le_refl _, by unfold maxLen; omega, by simp, ?_⟩⟩
            unfold boolsV
            simp)
          clear d0 d9
          generalize (W.alloc (.cells (Array.replicate racks.length (.bool false)) TB)) = W8 at HS8 ⊢
          gi_loopw [36] (fun v wr => RkL W (.slice (some ⟨W.heap.size, 0, none⟩) racks.length racks.length) racks t v wr) (fun v _ => racks.length - (intOf v).toNat)
          case atStart => exact HS8.out
          case round =>
            clear HS8
            obtain ⟨k, hk, rfl, ho, hb⟩ := hrel.st
            clear hrel
            have hll := lostK_len (racks := racks) (s := t) hk
            by_cases hkt : k < racks.length
            · have hktd : decide ((k : Int) < (racks.length : Int)) = true := decide_eq_true (by omega)
              have hwk : IntKind.i64.wrap ((k : Int) + 1) = (k : Int) + 1 := IntWalk.i64_in _ (by omega)
              obtain ⟨y, hy⟩ : ∃ y, racks[k]? = some y := ⟨_, List.getElem?_eq_getElem hkt⟩
              obtain ⟨_, _, hv1, -, -, hr1⟩ := HR.out
              simp only [Value.slice.injEq] at hv1
              obtain ⟨rfl, -, rfl⟩ := hv1
              obtain ⟨b1, o1, rfl, hl1, hc1⟩ := hr1 (by rw [intsV_len]; omega)
              have e1 := ((HE0.out.1.bl.trans (hb.mono HE0.out.1.bl.size)).cell (p := ⟨b1, o1 + k, none⟩) hl1).trans (hc1 k _ (intsV_at hy))
              obtain ⟨⟨uu, e2⟩, f2⟩ := ho.cell (p := k) (by rw [hll]; exact hkt)
              have hgw : W.heap.size < wr.heap.size := World.block_lt_of_cell? wr _ e2
              have HO := Lib.hid (And.intro ho (And.intro hb hy))
              have HXR := Lib.hid (HROW.out.below hb)
              clear ho hb hy hr1 hc1 hl1 hll HMK
              gi_wp2_with ((try refine ⟨hdd _, ?_⟩); gi_at_call 30; refine (hF.callsR _ _ (contains_any x t HTL.out y wr HXR.out)).mono ?_; rintro e w6 ⟨rfl, hw6⟩; rw [hw6]; clear hw6)
              go_roundw
              case rel => exact ⟨⟨k + 1, hkt, rfl, by rw [← lostK_step HO.out.2.2]; exact HO.out.1.set k _, HO.out.2.1.setCell (p := ⟨W.heap.size, k, none⟩) (Nat.le_refl _) _⟩⟩
              case measure => simp only [intOf]; omega
            · have hktd : decide ((k : Int) < (racks.length : Int)) = false := decide_eq_false (by omega)
              have hktp : ¬ (k : Int) < (racks.length : Int) := by omega
              have hke : k = racks.length := by omega
              have hrow2 : RowI wr (.slice (some ⟨W.heap.size, 0, none⟩) racks.length racks.length) (boolsV (lostR racks t)) := by
                rw [hke, lostK_all] at ho; exact ho.row
              have hlr : (lostR racks t).length = c.n := by rw [← HRN.out]; unfold lostR; rw [List.length_map]
              have HO := Lib.hid (And.intro hrow2 (And.intro hb hlr))
              obtain ⟨c0, c1, c2, c3, c4⟩ := (HE0.out.1.below hb).b2.code
              have d7 := (HE0.out.2.below hb).cell 0
              simp only [List.getElem?_toArray, List.getElem?_cons_zero] at d7
              clear ho hb hrow2 hlr hll hke HMK
              cases hdt : decL c (lostR racks t) with
              | true =>
                gi_wp2_with ((try refine ⟨hdd _, ?_⟩); gi_at_call 31; refine (hF.callsR _ _ (HDC.out (lostR racks t) HO.out.2.2 _ wr (HE0.out.1.below HO.out.2.1).bl HO.out.1)).mono ?_; rintro e w7 ⟨rfl, n1⟩; rw [hdt])
                have hb7 : Below W.heap.size W w7 := HO.out.2.1.trans (n1.mono HO.out.2.1.size)
                exact ⟨KeepsFrom.of_below hb7, KpB.of hb7 (Nat.zero_le _), ⟨HBL5.out.trans (hb7.mono hz), fun j t' hj hjt => HN0.out j t' hj hjt hdt⟩⟩
              | false =>
                gi_wp2_with ((try refine ⟨hdd _, ?_⟩); gi_at_call 31; refine (hF.callsR _ _ (HDC.out (lostR racks t) HO.out.2.2 _ wr (HE0.out.1.below HO.out.2.1).bl HO.out.1)).mono ?_; rintro e w7 ⟨rfl, n1⟩; rw [hdt]; have HB7 := Lib.hid (show Below W.heap.size W w7 from HO.out.2.1.trans (n1.mono HO.out.2.1.size)); have HE7 := Lib.hid (HE0.out.1.below HB7.out); obtain ⟨r1, r2, -⟩ := HE7.out.res; have hl4 := HE7.out.lt.2.2.1; have d8 := (HE0.out.2.below HB7.out).cell 0; simp only [List.getElem?_toArray, List.getElem?_cons_zero] at d8)
                obtain ⟨hD, hK⟩ := HE7.out.set (f : Int)
                have h57 : w5.heap.size ≤ w7.heap.size := Nat.le_trans hz HB7.out.size
                have l4 := HE5.out.lt.2.2.1
                have b4 := But.set g4 0 w7 (.int .i64 (f : Int))
                refine ⟨⟨Nat.le_trans HB7.out.size b4.size, fun k o hk hko _ => ?_⟩, rfl, fun k k1 k2 => ?_, i, t, HT.out.1, hdt, HT.out.2, hD⟩
                · rw [hK k (by omega)]
                  exact (HB7.out.block k (Array.getElem?_eq_some_iff.1 hko).1).trans hko
                · rw [hK k k2]
                  exact (HB7.out.block k (by omega)).trans (HBL5.out.block k k1)
        case done =>
          intro D W hD ⟨hbl5, hall⟩ hK
          have HX := Lib.hid (And.intro hbl5 hall)
          have HK := Lib.hid hK
          clear hbl5 hall hK
          gi_wp2
          refine ⟨⟨⟨f + 1, D :: Ds, _, _, _, _, _, _, _, _, _, _, _, _, _, _, _, _, _, _, _, _, _, _, _, _, _, _, _, _, _, _, _, _, _, _, _, _, _, _, _, _, _, _, _, _, _, _, _, _, _, _, HLT.out, rfl, HE5.out.below HX.out.1, HU5.out.below HX.out.1, ?_, ?_⟩⟩, ?_⟩
          · rw [HFL.out]
            refine firstN_none HLT.out fun s hs => ?_
            obtain ⟨j, hj⟩ := List.mem_iff_getElem?.1 hs
            exact HX.out.2 j s (List.getElem?_eq_some_iff.1 hj).1 hj
          · refine ⟨List.nodup_cons.2 ⟨fun hm => ?_, HM5.out.1⟩, fun E hE => ?_⟩
            · have := HMD.out D hm; omega
            · rcases List.mem_cons.1 hE with rfl | hE
              · exact ⟨Nat.le_trans HE5.out.bl.size hD, HK.out⟩
              · exact (HM5.out.below HX.out.1).2 E hE
          · show N - (intOf (.int .i64 ((f : Int) + 1))).toNat < N - (intOf (.int .i64 (f : Int))).toNat
            simp only [intOf]
            have := HLT.out
            omega
        case stop =>
          rintro D c' W hD ⟨rfl, h7, i, t, h2, h3, h4, h5⟩ hK
          have HX := Lib.hid (And.intro h7 (And.intro h2 (And.intro h3 (And.intro h4 (And.intro h5 hK)))))
          clear h7 h2 h3 h4 h5 hK
          gi_wp2
          obtain ⟨h7, h2, h3, h4, h5, hK⟩ := HX.out
          refine rk_leave (Ds := D :: Ds) h5 ⟨List.nodup_cons.2 ⟨fun hm => ?_, HM5.out.1⟩, fun E hE => ?_⟩ rfl fun w' hw' => ?_
          · have := HMD.out D hm; omega
          · rcases List.mem_cons.1 hE with rfl | hE
            · exact ⟨Nat.le_trans HE5.out.bl.size hD, hK⟩
            · have h8 := (HM5.out.2 E hE).2
              obtain ⟨t4, q4⟩ := HE5.out.b4
              refine ⟨(HM5.out.2 E hE).1, (h7 E (HMD.out E hE) (fun e => ?_)).trans h8⟩
              rw [e, q4] at h8; cases h8
          · rw [HZ.out, HFL.out, firstN_some HLT.out h2 h3 h4]
            exact ⟨rfl, h5.bl.trans (hw'.bl.mono (Nat.le_refl _))⟩
      · obtain rfl : f = N := by omega
        have hltd : decide ((f : Int) < (f : Int)) = false := decide_eq_false (by omega)
        have hNI := HNN.out.2
        obtain ⟨r1, r2, -⟩ := HEr.out.res
        have hl4 := HEr.out.lt.2.2.1
        clear hlt hf
        gi_wp2
        obtain ⟨hD, hK⟩ := HEr.out.set (f : Int)
        obtain ⟨t4, q4⟩ := HEr.out.b4
        refine rk_leave (Ds := Ds) hD ⟨HM.out.1, fun E hE => ?_⟩ rfl fun w' hw' => ?_
        · have h8 := (HM.out.2 E hE).2
          refine ⟨(HM.out.2 E hE).1, (hK E (fun e => ?_)).trans h8⟩
          rw [e, q4] at h8; cases h8
        · rw [HZ.out, HFL.out, Nat.sub_self, firstL_zero]
          exact ⟨rfl, (hD.keep hw' (Nat.le_refl _)).bl⟩
theorem racks_any (cv : Array Value) (nm : ByteArray) (fI kI : Int) (L : List (List Int)) (dom : Int) (rv : Value) (racks : List Int) (hrl : racks.length ≤ 1000) (w : World) (hT : TabF w) (hc : CvAt w cv nm fI kI L dom) (hr : RowI w rv (intsV racks)) :
    Calls Tryz.prog 13 #[.agg cv, rv] w fun e w' => e = .returned (.int .i64 (racksI nm fI kI L dom racks)) ∧ Below w.heap.size w w' := callsIn_wide.1 (racks_in cv nm fI kI L dom rv racks hrl w hT hc hr)
end Go.Proofs.YtnilepaicnnbhaaGreatDoor

/- package solventlaw09: small, distinct, ints, minus. -/
namespace Go.GF
open Go Go.RowKit
def smallB (k : Int) (n : Nat) : Bool := decide (0 ≤ k) && (decide (k ≤ 6) && (decide (n ≤ 5) && decide (k + (n : Int) ≤ 9)))
def stepB (h : List Bool) (x : Int) : List Bool := if 0 ≤ x ∧ x < (h.length : Int) then h.set x.toNat false else h
/-- What is there without the units of a list of integers. -/
def minusI (h : List Bool) (s : List Int) : List Bool := s.foldl stepB h
theorem stepB_len (h : List Bool) (x : Int) : (stepB h x).length = h.length := by unfold stepB; split <;> simp
theorem minusI_len (h : List Bool) (s : List Int) : (minusI h s).length = h.length := by
  unfold minusI
  induction s generalizing h with
  | nil => rfl
  | cons x r ih => rw [List.foldl_cons, ih, stepB_len]
theorem minusI_step {h : List Bool} {s : List Int} {k : Nat} {x : Int} (hx : s[k]? = some x) : minusI h (s.take (k + 1)) = stepB (minusI h (s.take k)) x := by
  rw [List.take_add_one, hx]
  unfold minusI
  rw [List.foldl_append]; rfl
end Go.GF
namespace Go.Proofs.YtnilepaicnnbhaaGreatDoor
open Go.RowKit Go.GF Go.Sl Go.Shelf
set_option maxRecDepth 20000 in
set_option maxHeartbeats 1000000 in
theorem small_any (nm : ByteArray) (f k : Int) (pv : Value) (dom : Int) (L : List (List Int)) (w : World) (hp : RowsI w pv L) :
    Calls Tryz.prog 4 #[.agg (codeV nm f k pv dom)] w fun e w' => e = .returned (.bool (smallB k L.length)) ∧ Below w.heap.size w w' := by
  obtain ⟨ao, cp, rfl⟩ := RowsI.shape hp
  have HAL := Lib.hid (fun o => al_below w o)
  generalize L.length = len at *
  clear hp
  unfold smallB codeV
  by_cases h1 : 0 ≤ k
  case neg =>
    have d1 : decide (0 ≤ k) = false := decide_eq_false h1
    rw [d1]
    clear h1
    go_enter Tryz.func4, Tryz.ntmps4
    go_wp2
    go_ret
    exact ⟨rfl, HAL.out _⟩
  have d1 : decide (0 ≤ k) = true := decide_eq_true h1
  by_cases h2 : k ≤ 6
  case neg =>
    have d2 : decide (k ≤ 6) = false := decide_eq_false h2
    rw [d1, d2]
    clear h1 h2
    go_enter Tryz.func4, Tryz.ntmps4
    go_wp2
    go_ret
    exact ⟨rfl, HAL.out _⟩
  have d2 : decide (k ≤ 6) = true := decide_eq_true h2
  by_cases h3 : len ≤ 5
  case neg =>
    have d3 : decide ((len : Int) ≤ 5) = false := decide_eq_false (by omega)
    rw [d1, d2, decide_eq_false h3]
    clear h1 h2 h3
    go_enter Tryz.func4, Tryz.ntmps4
    go_wp2
    go_ret
    exact ⟨rfl, HAL.out _⟩
  have d3 : decide ((len : Int) ≤ 5) = true := decide_eq_true (by omega)
  have hw : IntKind.i64.wrap (k + (len : Int)) = k + (len : Int) := IntWalk.i64_in _ (by omega)
  rw [d1, d2, decide_eq_true h3]
  cases d4 : decide (k + (len : Int) ≤ 9) with
  | true =>
    clear h1 h2 h3
    go_enter Tryz.func4, Tryz.ntmps4
    go_wp2
    go_ret
    exact ⟨rfl, HAL.out _⟩
  | false =>
    clear h1 h2 h3
    go_enter Tryz.func4, Tryz.ntmps4
    go_wp2
    go_ret
    exact ⟨rfl, HAL.out _⟩
structure DsO (w : World) (L : List Int) (i : Value) (wr : World) : Prop where
  st : ∃ n : Nat, n ≤ L.length ∧ i = .int .i64 (n : Int) ∧ (L.take n).Nodup ∧ Below w.heap.size w wr
structure DsI (w : World) (L : List Int) (n : Nat) (x : Int) (k : Value) (wr : World) : Prop where
  st : ∃ j : Nat, j ≤ n ∧ k = .int .i64 (j : Int) ∧ (∀ i, i < j → L[i]? ≠ some x) ∧ Below w.heap.size w wr
theorem nodup_step {L : List Int} {n : Nat} {x : Int} (hx : L[n]? = some x) (h : (L.take n).Nodup) (hn : ∀ i, i < n → L[i]? ≠ some x) : (L.take (n + 1)).Nodup := by
  rw [List.take_add_one, hx, Option.toList_some]
  refine List.nodup_append.2 ⟨h, by simp, fun a ha b hb e => ?_⟩
  obtain rfl := List.mem_singleton.1 hb
  subst e
  obtain ⟨i, hi⟩ := List.mem_iff_getElem?.1 ha
  have hlt := (List.getElem?_eq_some_iff.1 hi).1
  rw [List.length_take] at hlt
  rw [List.getElem?_take, if_pos (by omega)] at hi
  exact hn i (by omega) hi
structure InS (w : World) (la lb : List Int) (i : Value) (wr : World) : Prop where
  st : ∃ n : Nat, n ≤ la.length ∧ i = .int .i64 (n : Int) ∧ la.take n = lb.take n ∧ Below w.heap.size w wr
set_option maxRecDepth 20000 in
set_option maxHeartbeats 2000000 in
theorem ints_any (va vb : Value) (la lb : List Int) (hL : la.length ≤ 100000) (w : World) (ha : RowI w va (intsV la)) (hb : RowI w vb (intsV lb)) :
    Calls Tryz.prog 10 #[va, vb] w fun e w' => e = .returned (.bool (decide (la = lb))) ∧ Below w.heap.size w w' := by
  obtain ⟨aa, ca, rfl, -, -, hra⟩ := ha
  obtain ⟨ab, cb, rfl, -, -, hrb⟩ := hb
  rw [intsV_len la] at *
  rw [intsV_len lb] at *
  have HA := Lib.hid hra
  have HB := Lib.hid hrb
  have hl : (la.length : Int) ≤ 100000 := by omega
  clear hra hrb
  by_cases hll : la.length = lb.length
  case neg =>
    have hd : ((la.length : Int) != (lb.length : Int)) = true := by simp; omega
    have HZ := Lib.hid (show decide (la = lb) = false from decide_eq_false (fun e => hll (by rw [e])))
    clear hll
    go_enter Tryz.func10, Tryz.ntmps10
    go_wp2
    go_ret
    exact ⟨by rw [HZ.out]; rfl, Below.refl _ _⟩
  have hd : ((la.length : Int) != (lb.length : Int)) = false := by simp; omega
  have HLL := Lib.hid hll
  clear hll
  go_enter Tryz.func10, Tryz.ntmps10
  go_wp2
  go_loopw [5] (fun i wr => InS w la lb i wr) (fun i _ => la.length - (intOf i).toNat)
  case atStart => exact ⟨⟨0, Nat.zero_le _, rfl, rfl, Below.refl _ _⟩⟩
  case round =>
    obtain ⟨n, hn, rfl, he, hb⟩ := hrel.st
    clear hrel
    by_cases hlt : n < la.length
    · have hltd : decide ((n : Int) < (la.length : Int)) = true := decide_eq_true (by omega)
      have hwn : IntKind.i64.wrap ((n : Int) + 1) = (n : Int) + 1 := IntWalk.i64_in _ (by omega)
      have hltb : n < lb.length := by rw [← HLL.out]; exact hlt
      obtain ⟨x, hx⟩ : ∃ x, la[n]? = some x := ⟨_, List.getElem?_eq_getElem hlt⟩
      obtain ⟨y, hy⟩ : ∃ y, lb[n]? = some y := ⟨_, List.getElem?_eq_getElem hltb⟩
      obtain ⟨ba, oa, rfl, hla, hca⟩ := HA.out (by omega)
      obtain ⟨bb, ob, rfl, hlb, hcb⟩ := HB.out (by omega)
      have e1 := (hb.cell (p := ⟨ba, oa + n, none⟩) hla).trans (hca n _ (intsV_at hx))
      have e2 := (hb.cell (p := ⟨bb, ob + n, none⟩) hlb).trans (hcb n _ (intsV_at hy))
      have HX := Lib.hid (And.intro hx (And.intro hy (And.intro he hb)))
      clear hx hy he hb hca hcb
      by_cases hxy : x = y
      · subst hxy
        go_upto_region 6 with (fail)
        go_quiet (fail)
        go_wp2
        go_roundw
        case rel =>
          obtain ⟨hx, hy, he, hb⟩ := HX.out
          exact ⟨⟨n + 1, hlt, rfl, by rw [List.take_add_one, List.take_add_one, hx, hy, he], below_drewN hb _⟩⟩
        case measure => simp only [intOf]; omega
      · have hxd : (x != y) = true := by simp [hxy]
        have HZ := Lib.hid (show decide (la = lb) = false from decide_eq_false (fun e => hxy (by
          obtain ⟨hx, hy, -⟩ := HX.out
          rw [e, hy] at hx; exact (Option.some.inj hx).symm)))
        go_upto_region 6 with (fail)
        go_quiet (fail)
        go_wp2
        go_ret
        exact ⟨by rw [HZ.out]; rfl, below_drewN HX.out.2.2.2 _⟩
    · have hne : n = la.length := by omega
      have hltd : decide ((n : Int) < (la.length : Int)) = false := decide_eq_false (by omega)
      have HZ := Lib.hid (show decide (la = lb) = true from decide_eq_true (by
        rw [hne, List.take_length, HLL.out, List.take_length] at he; exact he))
      have HB2 := Lib.hid hb
      clear he hb hne
      go_wp2
      go_ret
      exact ⟨by rw [HZ.out]; rfl, HB2.out⟩
end Go.Proofs.YtnilepaicnnbhaaGreatDoor

/- package solventlaw09: minus, code, the sanity example. -/
namespace Go.Proofs.YtnilepaicnnbhaaGreatDoor
open Go.RowKit Go.GF Go.Sl Go.Shelf
/-- append of truth values that can be read, onto a nil row. -/
theorem run_apNB {w : World} {v : Value} {h : List Bool} (hv : RowI w v (boolsV h)) (hn : h.length ≤ 100000) :
    ∃ v' w', (Builtin.append_ #[25, 25] 25 #[.slice none 0 0, v]).run Tryz.prog w = .ok v' w' ∧ OwnB w.heap.size w' v' h ∧ Below w.heap.size w w' := by
  obtain ⟨i0, hi, hz0, hz1, hz2⟩ := info_parts info_bool1
  obtain ⟨ao, cap, rfl, -, -, hrow⟩ := hv
  rw [boolsV_len] at *
  have hown : w.ownsRow w.heap.size TB 1 (.slice none 0 0) 0 [] := World.ownsRow_nil w _ _ _
  cases ao with
  | none =>
    have h0 : h = [] := by
      rcases Nat.eq_zero_or_pos h.length with h0 | h0
      · exact List.eq_nil_of_length_eq_zero h0
      · obtain ⟨b, off, hb, -⟩ := hrow h0
        cases hb
    subst h0
    refine ⟨.slice none 0 0, w, ?_, hown, Below.refl _ _⟩
    simp [Builtin.append_, run_underlying Tryz.underlying25, Builtin.lenOf, sizeOf, typeInfo, hi, go_sem]
  | some ad =>
    obtain ⟨v', w', hr, h2, h3, h4⟩ := run_append_own (P := Tryz.prog) w w.heap.size 25 25 TB i0 (.bool false) 1 1 Tryz.underlying25 hi hz0 hz1 hz2 rfl (by decide) _ 0 [] hown ad h.length cap (boolsV h) (by rw [boolsV_len, Nat.mul_one])
      (by
        intro j u hu
        have hj := (List.getElem?_eq_some_iff.1 hu).1
        rw [boolsV_len] at hj
        obtain ⟨b, off, hb, hl, hc⟩ := hrow (by omega)
        cases hb
        rw [Addr.add_mid]
        exact hc j u hu)
      boolsV_one (by unfold maxLen; omega) (by omega) (Nat.le_refl _)
    refine ⟨v', w', hr, ?_, (Below.refl w.heap.size _).grown h3 (Nat.le_refl _) fun k hk => by cases hk⟩
    have := h2
    rw [List.nil_append, Nat.zero_add] at this
    exact this
structure MnS (w : World) (h : List Bool) (s : List Int) (ov : Value) (i : Value) (wr : World) : Prop where
  st : ∃ n : Nat, n ≤ s.length ∧ i = .int .i64 (n : Int) ∧ OwnB w.heap.size wr ov (minusI h (s.take n)) ∧ Below w.heap.size w wr
def rsB : ByteArray := ⟨#[114, 115]⟩
set_option maxRecDepth 20000 in
theorem code_any (ao : Option Addr) (n cap : Nat) (w : World) :
    Calls Tryz.prog 15 #[.slice ao n cap] w fun e w' => e = .returned (.agg (codeV rsB 8 2 (.slice ao n cap) 1)) ∧ Below w.heap.size w w' := by
  go_enter Tryz.func15, Tryz.ntmps15
  go_wp2
  refine bodyPost_ret (v := .agg (codeV rsB 8 2 (.slice ao n cap) 1)) (results_cell_row Tryz.results15 _ _ w.heap.size 24 (codeV rsB 8 2 (.slice ao n cap) 1) (0, 0) _ rfl (World.alloc_heap_new w _) Tryz.underlying24 rfl (by kernel_rfl)) rfl ?_
  exact ⟨rfl, al_below w _⟩
/-- The code of the example. -/
def rsL : List (List Int) := [[1, 1], [1, 2]]
def parL : List (List Int) := [[1, 1]]
theorem san1 : lossesM rsB 8 2 rsL 1 = 2 := by decide +kernel
theorem san2 : lossesM rsB 8 2 parL 1 = 1 := by decide +kernel
theorem san3 : leftM rsB 8 2 rsL 1 [false, true, true, true] = 1 := by decide +kernel
theorem san4 : fatalM rsB 8 2 rsL 1 [false, true, true, true] = [1, 2] := by decide +kernel
theorem san5 : leftM rsB 8 2 parL 1 [false, false, true] = -1 := by decide +kernel
theorem names_of_sorted {L : List Int} (h : L.Pairwise (fun x y => decide (x ≤ y) = true)) : sortI L = L := List.mergeSort_of_pairwise h
theorem names6 : namesL [0, 0, 1, 1] = [0, 1] := by
  unfold namesL
  rw [names_of_sorted (by decide)]
  decide +kernel
theorem names7 : namesL [0, 0, 0, 1] = [0, 1] := by
  unfold namesL
  rw [names_of_sorted (by decide)]
  decide +kernel
theorem san6 : racksI rsB 8 2 rsL 1 [0, 0, 1, 1] = 1 := by
  unfold racksI
  rw [names6]
  decide +kernel
theorem san7 : racksI rsB 8 2 rsL 1 [0, 0, 0, 1] = 0 := by
  unfold racksI
  rw [names7]
  decide +kernel
/-- What the example has laid: two codes, the row of what is there. -/
structure SanE (w0 : World) (g1 g2 : Nat) (p1 p2 : Value) (hv : Value) (W : World) : Prop where
  b1 : Box W g1 (codeV rsB 8 2 p1 1)
  b2 : Box W g2 (codeV rsB 8 2 p2 1)
  r1 : RowsI W p1 rsL
  r2 : RowsI W p2 parL
  rh : RowI W hv (boolsV [false, true, true, true])
  bl : Below w0.heap.size w0 W
theorem SanE.below {w0 : World} {g1 g2 : Nat} {p1 p2 hv : Value} {A C : World} (h : SanE w0 g1 g2 p1 p2 hv A) (hb : Below A.heap.size A C) : SanE w0 g1 g2 p1 p2 hv C :=
  ⟨h.b1.below hb, h.b2.below hb, h.r1.below hb, h.r2.below hb, h.rh.below hb, h.bl.trans (hb.mono h.bl.size)⟩
theorem SanE.c1 {w0 : World} {g1 g2 : Nat} {p1 p2 hv : Value} {A : World} (h : SanE w0 g1 g2 p1 p2 hv A) : CvAt A (codeV rsB 8 2 p1 1) rsB 8 2 rsL 1 := ⟨⟨p1, rfl, h.r1⟩, by unfold maxLen; decide, by decide, by decide, by decide⟩
theorem SanE.c2 {w0 : World} {g1 g2 : Nat} {p1 p2 hv : Value} {A : World} (h : SanE w0 g1 g2 p1 p2 hv A) : CvAt A (codeV rsB 8 2 p2 1) rsB 8 2 parL 1 := ⟨⟨p2, rfl, h.r2⟩, by unfold maxLen; decide, by decide, by decide, by decide⟩
/-- The first code is laid. -/
structure SanA (w0 : World) (g1 : Nat) (p1 : Value) (L : List (List Int)) (W : World) : Prop where
  b1 : Box W g1 (codeV rsB 8 2 p1 1)
  r1 : RowsI W p1 L
  bl : Below w0.heap.size w0 W
theorem SanA.below {w0 : World} {g1 : Nat} {p1 : Value} {L : List (List Int)} {A C : World} (h : SanA w0 g1 p1 L A) (hb : Below A.heap.size A C) : SanA w0 g1 p1 L C := ⟨h.b1.below hb, h.r1.below hb, h.bl.trans (hb.mono h.bl.size)⟩
theorem san_a (w w1 : World) (t1 t2 t3 t : TypeId) (h : Below (((w.alloc (.cells #[.int .i64 1, .int .i64 1] t1)).alloc (.cells #[.int .i64 1, .int .i64 2] t2)).alloc (.cells #[.slice (some ⟨w.heap.size, 0, none⟩) 2 2, .slice (some ⟨w.heap.size + 1, 0, none⟩) 2 2] t3)).heap.size
    (((w.alloc (.cells #[.int .i64 1, .int .i64 1] t1)).alloc (.cells #[.int .i64 1, .int .i64 2] t2)).alloc (.cells #[.slice (some ⟨w.heap.size, 0, none⟩) 2 2, .slice (some ⟨w.heap.size + 1, 0, none⟩) 2 2] t3)) w1) :
    SanA w w1.heap.size (.slice (some ⟨w.heap.size + 1 + 1, 0, none⟩) 2 2) rsL (w1.alloc (.cells (codeV rsB 8 2 (.slice (some ⟨w.heap.size + 1 + 1, 0, none⟩) 2 2) 1) t)) := by
  have hm : ∀ n : Nat, n ≤ 4 → n ≤ maxLen := fun n hn => by unfold maxLen; omega
  have a1 := RowI.alloc (W := w) (c := [.int .i64 1, .int .i64 1]) (t := t1) (hm 2 (by omega))
  have a2 := RowI.alloc (W := w.alloc (.cells #[.int .i64 1, .int .i64 1] t1)) (c := [.int .i64 1, .int .i64 2]) (t := t2) (hm 2 (by omega))
  have a3 := RowI.alloc (W := (w.alloc (.cells #[.int .i64 1, .int .i64 1] t1)).alloc (.cells #[.int .i64 1, .int .i64 2] t2)) (c := [.slice (some ⟨w.heap.size, 0, none⟩) 2 2, .slice (some ⟨w.heap.size + 1, 0, none⟩) 2 2]) (t := t3) (hm 2 (by omega))
  simp only [World.size_alloc] at a2 a3
  have b1 := al_below w (.cells #[.int .i64 1, .int .i64 1] t1)
  have b2 := al_below (w.alloc (.cells #[.int .i64 1, .int .i64 1] t1)) (.cells #[.int .i64 1, .int .i64 2] t2)
  have b3 := al_below ((w.alloc (.cells #[.int .i64 1, .int .i64 1] t1)).alloc (.cells #[.int .i64 1, .int .i64 2] t2)) (.cells #[.slice (some ⟨w.heap.size, 0, none⟩) 2 2, .slice (some ⟨w.heap.size + 1, 0, none⟩) 2 2] t3)
  have b4 := al_below w1 (.cells (codeV rsB 8 2 (.slice (some ⟨w.heap.size + 1 + 1, 0, none⟩) 2 2) 1) t)
  have hb : Below w.heap.size w w1 := b1.trans ((b2.mono b1.size).trans ((b3.mono (Nat.le_trans b1.size b2.size)).trans (h.mono (Nat.le_trans b1.size (Nat.le_trans b2.size b3.size)))))
  refine ⟨⟨t, World.alloc_heap_new w1 _⟩, ⟨_, (a3.below h).below b4, rfl, fun i x hx => ?_⟩, hb.trans (b4.mono hb.size)⟩
  match i, hx with
  | 0, hx =>
    cases hx
    exact ⟨[1, 1], rfl, (((a1.below b2).below b3).below h).below b4⟩
  | 1, hx =>
    cases hx
    exact ⟨[1, 2], rfl, ((a2.below b3).below h).below b4⟩
theorem san_b (w w1 : World) (t1 t3 t : TypeId) (h : Below ((w.alloc (.cells #[.int .i64 1, .int .i64 1] t1)).alloc (.cells #[.slice (some ⟨w.heap.size, 0, none⟩) 2 2] t3)).heap.size ((w.alloc (.cells #[.int .i64 1, .int .i64 1] t1)).alloc (.cells #[.slice (some ⟨w.heap.size, 0, none⟩) 2 2] t3)) w1) :
    SanA w w1.heap.size (.slice (some ⟨w.heap.size + 1, 0, none⟩) 1 1) parL (w1.alloc (.cells (codeV rsB 8 2 (.slice (some ⟨w.heap.size + 1, 0, none⟩) 1 1) 1) t)) := by
  have hm : ∀ n : Nat, n ≤ 4 → n ≤ maxLen := fun n hn => by unfold maxLen; omega
  have a1 := RowI.alloc (W := w) (c := [.int .i64 1, .int .i64 1]) (t := t1) (hm 2 (by omega))
  have a3 := RowI.alloc (W := w.alloc (.cells #[.int .i64 1, .int .i64 1] t1)) (c := [.slice (some ⟨w.heap.size, 0, none⟩) 2 2]) (t := t3) (hm 1 (by omega))
  simp only [World.size_alloc] at a3
  have b1 := al_below w (.cells #[.int .i64 1, .int .i64 1] t1)
  have b3 := al_below (w.alloc (.cells #[.int .i64 1, .int .i64 1] t1)) (.cells #[.slice (some ⟨w.heap.size, 0, none⟩) 2 2] t3)
  have b4 := al_below w1 (.cells (codeV rsB 8 2 (.slice (some ⟨w.heap.size + 1, 0, none⟩) 1 1) 1) t)
  have hb : Below w.heap.size w w1 := b1.trans ((b3.mono b1.size).trans (h.mono (Nat.le_trans b1.size b3.size)))
  refine ⟨⟨t, World.alloc_heap_new w1 _⟩, ⟨_, (a3.below h).below b4, rfl, fun i x hx => ?_⟩, hb.trans (b4.mono hb.size)⟩
  match i, hx with
  | 0, hx =>
    cases hx
    exact ⟨[1, 1], rfl, ((a1.below b3).below h).below b4⟩
theorem san_e {w0 : World} {g1 g2 : Nat} {p1 p2 : Value} {A B : World} (t : TypeId) (ha : SanA w0 g1 p1 rsL A) (hb : SanA A g2 p2 parL B) :
    SanE w0 g1 g2 p1 p2 (.slice (some ⟨B.heap.size, 0, none⟩) 4 4) (B.alloc (.cells #[.bool false, .bool true, .bool true, .bool true] t)) := by
  have b1 := al_below B (.cells #[.bool false, .bool true, .bool true, .bool true] t)
  have h1 := ha.below (hb.bl.trans (b1.mono hb.bl.size))
  have h2 := hb.below b1
  exact ⟨h1.b1, h2.b1, h1.r1, h2.r1, RowI.alloc (c := [.bool false, .bool true, .bool true, .bool true]) (by unfold maxLen; decide), h1.bl⟩
set_option maxRecDepth 20000 in
set_option maxHeartbeats 4000000 in
theorem sanity_any (w : World) (hT : TabF w) : Calls Tryz.prog 5 #[] w fun e w' => e = .returned (.bool true) ∧ Below w.heap.size w w' := by
  go_enter Tryz.func5, Tryz.ntmps5
  go_upto_region 2 with (go_at_call 15; refine (code_any _ 2 _ _).mono ?_; rintro e w1 ⟨rfl, h1⟩; have H1 := Lib.hid h1; clear h1; unfold codeV)
  have HA := Lib.hid (san_a w w1 TI TI 26 24 H1.out)
  clear H1
  unfold codeV at HA
  generalize Value.slice (some ⟨w.heap.size + 1 + 1, 0, none⟩) 2 2 = p1 at HA ⊢
  obtain ⟨W1, hW1⟩ : ∃ W, w1.alloc (.cells #[.string rsB, .int .i64 8, .int .i64 2, p1, .int .i64 1] 24) = W := ⟨_, rfl⟩
  rw [hW1] at HA ⊢
  clear hW1
  generalize w1.heap.size = g1 at HA ⊢
  go_upto_region 3 with (go_at_call 15; refine (code_any _ 1 _ _).mono ?_; rintro e w2 ⟨rfl, h2⟩; have H2 := Lib.hid h2; clear h2; unfold codeV)
  have HB := Lib.hid (san_b W1 w2 TI 26 24 H2.out)
  clear H2
  unfold codeV at HB
  generalize Value.slice (some ⟨W1.heap.size + 1, 0, none⟩) 1 1 = p2 at HB ⊢
  obtain ⟨W2, hW2⟩ : ∃ W, w2.alloc (.cells #[.string rsB, .int .i64 8, .int .i64 2, p2, .int .i64 1] 24) = W := ⟨_, rfl⟩
  rw [hW2] at HB ⊢
  clear hW2
  generalize w2.heap.size = g2 at HB ⊢
  go_upto_region 4 with (fail)
  have HE := Lib.hid (san_e TB HA.out HB.out)
  clear HA HB
  obtain ⟨W3, hW3⟩ : ∃ W, W2.alloc (.cells #[.bool false, .bool true, .bool true, .bool true] TB) = W := ⟨_, rfl⟩
  rw [hW3] at HE ⊢
  clear hW3
  generalize Value.slice (some ⟨W2.heap.size, 0, none⟩) 4 4 = hv at HE ⊢
  -- CHAIN
  have HTT := Lib.hid hT
  clear hT
  obtain ⟨c0, c1, c2, c3, c4⟩ := HE.out.b1.code
  obtain ⟨d0, d1, d2, d3, d4⟩ := HE.out.b2.code
  have HQ0 := Lib.hid (losses_any _ rsB 8 2 rsL 1 _ (HTT.out.below HE.out.bl) HE.out.c1)
  unfold codeV at HQ0
  go_wp2_with first
    | (go_at_call 6; refine HQ0.out.mono ?_; clear HQ0; rintro e x0 ⟨rfl, hx0⟩; have HE0 := Lib.hid (HE.out.below hx0); clear hx0 c0 c1 c2 c3 c4 d0 d1 d2 d3 d4; obtain ⟨c0, c1, c2, c3, c4⟩ := HE0.out.b1.code; obtain ⟨d0, d1, d2, d3, d4⟩ := HE0.out.b2.code; rw [san1]; have HQ1 := Lib.hid (losses_any _ rsB 8 2 parL 1 _ (HTT.out.below HE0.out.bl) HE0.out.c2); try unfold codeV at HQ1)
    | (go_at_call 6; refine HQ1.out.mono ?_; clear HQ1; rintro e x1 ⟨rfl, hx1⟩; have HE1 := Lib.hid (HE0.out.below hx1); clear hx1 c0 c1 c2 c3 c4 d0 d1 d2 d3 d4; obtain ⟨c0, c1, c2, c3, c4⟩ := HE1.out.b1.code; obtain ⟨d0, d1, d2, d3, d4⟩ := HE1.out.b2.code; rw [san2]; have HQ2 := Lib.hid (left_any _ rsB 8 2 rsL 1 hv [false, true, true, true] _ (HTT.out.below HE1.out.bl) HE1.out.c1 HE1.out.rh); try unfold codeV at HQ2)
    | (go_at_call 8; refine HQ2.out.mono ?_; clear HQ2; rintro e x2 ⟨rfl, hx2⟩; have HE2 := Lib.hid (HE1.out.below hx2); clear hx2 c0 c1 c2 c3 c4 d0 d1 d2 d3 d4; obtain ⟨c0, c1, c2, c3, c4⟩ := HE2.out.b1.code; obtain ⟨d0, d1, d2, d3, d4⟩ := HE2.out.b2.code; rw [san3]; have HQ3 := Lib.hid (fatal_any _ rsB 8 2 rsL 1 hv [false, true, true, true] _ (HTT.out.below HE2.out.bl) HE2.out.c1 HE2.out.rh); try unfold codeV at HQ3)
    | (go_at_call 11; refine HQ3.out.mono ?_; clear HQ3; rintro e x3 ⟨v, rfl, hv7, hx3⟩; have HE3 := Lib.hid (HE2.out.below hx3); clear hx3 c0 c1 c2 c3 c4 d0 d1 d2 d3 d4; obtain ⟨c0, c1, c2, c3, c4⟩ := HE3.out.b1.code; obtain ⟨d0, d1, d2, d3, d4⟩ := HE3.out.b2.code; rw [san4] at hv7; have HP3 := Lib.hid (HE3.out.below (al_below x3 (.cells #[.int .i64 1, .int .i64 2] TI))); have HQ4 := Lib.hid (ints_any v (.slice (some ⟨x3.heap.size, 0, none⟩) 2 2) [1, 2] [1, 2] (by decide) (x3.alloc (.cells #[.int .i64 1, .int .i64 2] TI)) (hv7.below (al_below x3 _)) (RowI.alloc (c := [.int .i64 1, .int .i64 2]) (by unfold maxLen; decide))); try unfold codeV at HQ4)
    | (go_at_call 10; refine HQ4.out.mono ?_; clear HQ4; rintro e x4 ⟨rfl, hx4⟩; have HE4 := Lib.hid (HP3.out.below hx4); clear hx4 c0 c1 c2 c3 c4 d0 d1 d2 d3 d4; obtain ⟨c0, c1, c2, c3, c4⟩ := HE4.out.b1.code; obtain ⟨d0, d1, d2, d3, d4⟩ := HE4.out.b2.code; have HP4 := Lib.hid (HE4.out.below (al_below x4 (.cells #[.bool false, .bool false, .bool true] TB))); have HQ5 := Lib.hid (left_any _ rsB 8 2 parL 1 (.slice (some ⟨x4.heap.size, 0, none⟩) 3 3) [false, false, true] (x4.alloc (.cells #[.bool false, .bool false, .bool true] TB)) (HTT.out.below HP4.out.bl) HP4.out.c2 (RowI.alloc (c := [.bool false, .bool false, .bool true]) (by unfold maxLen; decide))); try unfold codeV at HQ5)
    | (go_at_call 8; refine HQ5.out.mono ?_; clear HQ5; rintro e x5 ⟨rfl, hx5⟩; have HE5 := Lib.hid (HP4.out.below hx5); clear hx5 c0 c1 c2 c3 c4 d0 d1 d2 d3 d4; obtain ⟨c0, c1, c2, c3, c4⟩ := HE5.out.b1.code; obtain ⟨d0, d1, d2, d3, d4⟩ := HE5.out.b2.code; rw [san5]; have HP5 := Lib.hid (HE5.out.below (al_below x5 (.cells #[.int .i64 0, .int .i64 0, .int .i64 1, .int .i64 1] TI))); have HQ6 := Lib.hid (racks_any _ rsB 8 2 rsL 1 (.slice (some ⟨x5.heap.size, 0, none⟩) 4 4) [0, 0, 1, 1] (by decide) (x5.alloc (.cells #[.int .i64 0, .int .i64 0, .int .i64 1, .int .i64 1] TI)) (HTT.out.below HP5.out.bl) HP5.out.c1 (RowI.alloc (c := [.int .i64 0, .int .i64 0, .int .i64 1, .int .i64 1]) (by unfold maxLen; decide))); try unfold codeV at HQ6)
    | (go_at_call 13; refine HQ6.out.mono ?_; clear HQ6; rintro e x6 ⟨rfl, hx6⟩; have HE6 := Lib.hid (HP5.out.below hx6); clear hx6 c0 c1 c2 c3 c4 d0 d1 d2 d3 d4; obtain ⟨c0, c1, c2, c3, c4⟩ := HE6.out.b1.code; obtain ⟨d0, d1, d2, d3, d4⟩ := HE6.out.b2.code; rw [san6]; have HP6 := Lib.hid (HE6.out.below (al_below x6 (.cells #[.int .i64 0, .int .i64 0, .int .i64 0, .int .i64 1] TI))); have HQ7 := Lib.hid (racks_any _ rsB 8 2 rsL 1 (.slice (some ⟨x6.heap.size, 0, none⟩) 4 4) [0, 0, 0, 1] (by decide) (x6.alloc (.cells #[.int .i64 0, .int .i64 0, .int .i64 0, .int .i64 1] TI)) (HTT.out.below HP6.out.bl) HP6.out.c1 (RowI.alloc (c := [.int .i64 0, .int .i64 0, .int .i64 0, .int .i64 1]) (by unfold maxLen; decide))); try unfold codeV at HQ7)
    | (go_at_call 13; refine HQ7.out.mono ?_; clear HQ7; rintro e x7 ⟨rfl, hx7⟩; have HE7 := Lib.hid (HP6.out.below hx7); clear hx7 c0 c1 c2 c3 c4 d0 d1 d2 d3 d4; obtain ⟨c0, c1, c2, c3, c4⟩ := HE7.out.b1.code; obtain ⟨d0, d1, d2, d3, d4⟩ := HE7.out.b2.code; rw [san7])
  go_ret
  exact ⟨rfl, HE7.out.bl⟩
end Go.Proofs.YtnilepaicnnbhaaGreatDoor
