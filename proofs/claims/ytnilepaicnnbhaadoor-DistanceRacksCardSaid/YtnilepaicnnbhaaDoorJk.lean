/- package matrix: reduce's exchange of two rows. -/
import Derived.Test.YtnilepaicnnbhaaDoorJj
import Derived.Test.YtnilepaicnnbhaaDoorRu
import Derived.RegionTactic
import Derived.BigRegion
namespace Go.GF
open Go Go.RowKit
/-- Two rows exchanged: as far as column k. -/
def swK (M : Mat) (i r k : Nat) : Mat := fun a j => if j < k then swapM M i r a j else M a j
theorem swK_zero (M : Mat) (i r : Nat) : swK M i r 0 = M := by funext a j; unfold swK; rw [if_neg (by omega)]
theorem swK_at (M : Mat) (i r k a : Nat) : swK M i r k a k = M a k := by unfold swK; rw [if_neg (by omega)]
theorem swK_set (M : Mat) (i r k : Nat) : setM (setM (swK M i r k) i k (M r k)) r k (M i k) = swK M i r (k + 1) := by
  funext a j
  unfold setM swK swapM
  by_cases hj : j = k
  · subst hj
    rw [if_pos (show j < j + 1 by omega)]
    by_cases h1 : a = r
    · rw [if_pos ⟨h1, rfl⟩]
      by_cases h2 : a = i
      · rw [if_pos h2]; rw [← h1, ← h2]
      · rw [if_neg h2, if_pos h1]
    · rw [if_neg (fun h => h1 h.1)]
      by_cases h2 : a = i
      · rw [if_pos ⟨h2, rfl⟩, if_pos h2]
      · rw [if_neg (fun h => h2 h.1), if_neg (by omega), if_neg h2, if_neg h1]
  · rw [if_neg (fun h => hj h.2), if_neg (fun h => hj h.2)]
    by_cases h1 : j < k
    · simp [h1, show j < k + 1 by omega]
    · simp [h1, show ¬ j < k + 1 by omega]
theorem swK_all (M : Mat) (i r C : Nat) : ∀ a, ∀ j, j < C → swK M i r C a j = swapM M i r a j := by
  intro a j hj; unfold swK; rw [if_pos hj]
/-- A matrix, and a struct that names it. -/
structure ReB (w0 : World) (b R C m cap : Nat) (M : Mat) (gA : Nat) (wr : World) : Prop where
  bM : MatB wr b R C M
  bA : Box wr gA (matV m R C b cap)
  bt : But b w0 wr
theorem ReB.below {w0 wr wr' : World} {b R C m cap : Nat} {M : Mat} {gA : Nat} (h : ReB w0 b R C m cap M gA wr) (hb : Below wr.heap.size wr wr') : ReB w0 b R C m cap M gA wr' :=
  ⟨h.bM.below hb, h.bA.below hb, h.bt.trans (But.of hb)⟩
theorem ReB.drew {w0 wr : World} {b R C m cap : Nat} {M : Mat} {gA : Nat} (h : ReB w0 b R C m cap M gA wr) : ReB w0 b R C m cap M gA wr.drew :=
  ⟨h.bM.keep rfl, h.bA.keep rfl, h.bt.drew⟩
end Go.GF
namespace Go.Proofs.YtnilepaicnnbhaaDoor
open Go.RowKit Go.GF Go.Sl
/-- A struct of a matrix is loaded. -/
theorem exec_ldM {a : Act} {o : Oper} {w : World} {x : Operand} {g m R C b cap : Nat} (ho : o.op = .load TM x) (hx : a.eval x = .pointer (some ⟨g, 0, none⟩)) (h : Box w g (matV m R C b cap)) :
    (execOp a.eval o).run Tryd.prog w = .ok (.value (.agg (matV m R C b cap))) w := by
  obtain ⟨t, h1⟩ := h
  refine exec_load ho hx ?_
  have := run_loadVar_row (P := Tryd.prog) w g t TM (matV m R C b cap) (0, 0) _ h1 Tryd.underlying61 rfl info_mat
  simp [Instr.loadAt, Instr.sureAddr, this]

structure SwSt (w : World) (b R C : Nat) (i r : Nat) (M : Mat) (k : Value) (wr : World) : Prop where
  st : ∃ n : Nat, n ≤ C ∧ k = .int .i64 (n : Int) ∧ MatB wr b R C (swK M i r n) ∧ But b w wr
set_option maxRecDepth 20000 in
set_option maxHeartbeats 2000000 in
theorem swap_any (m R C b cap gA i r : Nat) (hR : R ≤ 32) (hC : C ≤ 32) (hC0 : 0 < C) (hcap : R * C ≤ cap) (hi : i < R) (hr : r < R) (M : Mat) (w : World) (hM : MatB w b R C M) (hA : Box w gA (matV m R C b cap)) :
    Calls Tryd.prog 70 #[.int .i64 (i : Int), .int .i64 (r : Int), .pointer (some ⟨gA, 0, none⟩)] w fun e w' => (∃ v, e = .returned v) ∧ MatB w' b R C (swapM M i r) ∧ But b w w' := by
  have HRA := Lib.hid (fun i (hi : i < R) W => row_any m R C b cap i hi hR hC hC0 hcap W)
  have hC32 : (C : Int) ≤ 32 := by omega
  have H0 := Lib.hid (show ReB w b R C m cap M gA w from ⟨hM, hA, But.refl _ _⟩)
  have HX := Lib.hid (And.intro hi hr)
  clear hi hr hR hcap hM hA
  go_enter Tryd.func70, Tryd.ntmps70
  refine wp_seq (regU_begin (fun w' => ReB w b R C m cap M gA w') (by kernel_rfl) H0.out.drew ?_)
  refine regU_take 0 (v := .agg (matV m R C b cap)) rfl rfl (by decide +kernel) rfl (fun w' h => exec_ldM rfl rfl h.bA) ?_; simp only [List.setIfInBounds_toArray, List.set_cons_succ, List.set_cons_zero]
  (apply regU_take 1 rfl rfl (by decide +kernel) rfl); (intro w' hw'; go_simp; rfl); simp only [List.setIfInBounds_toArray, List.set_cons_succ, List.set_cons_zero]
  refine regU_call 2 (f := 50) (args := #[.agg (matV m R C b cap), .int .i64 (i : Int)]) (v := .slice (some ⟨b, i * C, none⟩) C (cap - i * C)) rfl rfl (by decide +kernel) rfl (fun w' => by kernel_rfl) (fun w' h => (HRA.out i HX.out.1 w').mono fun e w'' h' => ⟨h'.1, h.below h'.2⟩) ?_
  simp only [List.setIfInBounds_toArray, List.set_cons_succ, List.set_cons_zero]
  refine regU_take 3 (v := .agg (matV m R C b cap)) rfl rfl (by decide +kernel) rfl (fun w' h => exec_ldM rfl rfl h.bA) ?_; simp only [List.setIfInBounds_toArray, List.set_cons_succ, List.set_cons_zero]
  (apply regU_take 4 rfl rfl (by decide +kernel) rfl); (intro w' hw'; go_simp; rfl); simp only [List.setIfInBounds_toArray, List.set_cons_succ, List.set_cons_zero]
  refine regU_call 5 (f := 50) (args := #[.agg (matV m R C b cap), .int .i64 (r : Int)]) (v := .slice (some ⟨b, r * C, none⟩) C (cap - r * C)) rfl rfl (by decide +kernel) rfl (fun w' => by kernel_rfl) (fun w' h => (HRA.out r HX.out.2 w').mono fun e w'' h' => ⟨h'.1, h.below h'.2⟩) ?_
  simp only [List.setIfInBounds_toArray, List.set_cons_succ, List.set_cons_zero]
  (apply regU_take 6 rfl rfl (by decide +kernel) rfl); (intro w' hw'; go_simp; rfl); simp only [List.setIfInBounds_toArray, List.set_cons_succ, List.set_cons_zero]
  (apply regU_take 7 rfl rfl (by decide +kernel) rfl); (intro w' hw'; go_simp; rfl); simp only [List.setIfInBounds_toArray, List.set_cons_succ, List.set_cons_zero]
  refine regU_done (by decide +kernel) ?_
  intro w1 h1
  have H1 := Lib.hid h1
  obtain ⟨Pi, hPi⟩ : ∃ P, i * C = P := ⟨_, rfl⟩
  obtain ⟨Pr, hPr⟩ : ∃ P, r * C = P := ⟨_, rfl⟩
  rw [hPi, hPr]
  have HP := Lib.hid (And.intro hPi hPr)
  clear hPi hPr h1 H0
  go_wp2
  go_loopw [16] (fun k wr => SwSt w b R C i r M k wr) (fun k _ => C - (intOf k).toNat)
  case atStart => exact ⟨⟨0, Nat.zero_le _, rfl, by rw [swK_zero]; exact H1.out.bM, H1.out.bt⟩⟩
  case round =>
    obtain ⟨k, hk, rfl, hMk, hbt⟩ := hrel.st
    clear hrel
    by_cases hlt : k < C
    · have hltd : decide ((k : Int) < (C : Int)) = true := decide_eq_true (by omega)
      have hwk : IntKind.i64.wrap ((k : Int) + 1) = (k : Int) + 1 := IntWalk.i64_in _ (by omega)
      have e1 := hMk.cell HX.out.1 hlt
      have e2 := hMk.cell HX.out.2 hlt
      rw [swK_at, HP.out.1] at e1
      rw [swK_at, HP.out.2] at e2
      have f1 := hMk.free (Pi + k)
      have f2 := hMk.free (Pr + k)
      have HK := Lib.hid (show MatB ((wr.setCell ⟨b, Pi + k, none⟩ (.int .i64 ((M r k : Nat) : Int))).setCell ⟨b, Pr + k, none⟩ (.int .i64 ((M i k : Nat) : Int))) b R C (swK M i r (k + 1)) ∧ But b w ((wr.setCell ⟨b, Pi + k, none⟩ (.int .i64 ((M r k : Nat) : Int))).setCell ⟨b, Pr + k, none⟩ (.int .i64 ((M i k : Nat) : Int))) by
        refine ⟨?_, (hbt.trans (But.set _ _ _ _)).trans (But.set _ _ _ _)⟩
        rw [← swK_set, ← HP.out.1, ← HP.out.2]
        exact (hMk.set hlt _).set hlt _)
      have hS1 : MatB (wr.setCell ⟨b, Pi + k, none⟩ (.int .i64 ((M r k : Nat) : Int))) b R C (setM (swK M i r k) i k (M r k)) := by
        rw [← HP.out.1]; exact hMk.set hlt _
      have e3 : (wr.setCell ⟨b, Pi + k, none⟩ (.int .i64 ((M r k : Nat) : Int))).cell? ⟨b, Pr + k, none⟩ = some (.int .i64 ((M r k : Nat) : Int)) := by
        have h := hS1.cell HX.out.2 hlt
        rw [HP.out.2, show setM (swK M i r k) i k (M r k) r k = M r k by unfold setM; split; rfl; exact swK_at _ _ _ _ _] at h
        exact h
      have f3 := hS1.free (Pr + k)
      have e4 : (wr.setCell ⟨b, Pi + k, none⟩ (.int .i64 ((M r k : Nat) : Int))).drew.cell? ⟨b, Pr + k, none⟩ = some (.int .i64 ((M r k : Nat) : Int)) := e3
      have f4 : (wr.setCell ⟨b, Pi + k, none⟩ (.int .i64 ((M r k : Nat) : Int))).drew.frozen? ⟨b, Pr + k, none⟩ = false := f3
      clear hMk hbt hS1
      go_wp2
      go_region
      clear e1 e2 e3 e4 f1 f2 f3 f4
      have HD := Lib.hid (And.intro (HK.out.1.keep (w' := ((wr.setCell ⟨b, Pi + k, none⟩ (.int .i64 ((M r k : Nat) : Int))).setCell ⟨b, Pr + k, none⟩ (.int .i64 ((M i k : Nat) : Int))).drew) rfl) HK.out.2.drew)
      clear HK
      generalize ((wr.setCell ⟨b, Pi + k, none⟩ (.int .i64 ((M r k : Nat) : Int))).setCell ⟨b, Pr + k, none⟩ (.int .i64 ((M i k : Nat) : Int))).drew = w3 at *
      go_wp2
      go_roundw
      case rel => exact ⟨⟨k + 1, hlt, rfl, HD.out.1, HD.out.2⟩⟩
      case measure => simp only [intOf]; omega
    · have hke : k = C := by omega
      have hltd : decide ((k : Int) < (C : Int)) = false := decide_eq_false (by omega)
      have HF := Lib.hid (show MatB wr b R C (swapM M i r) by subst hke; exact hMk.congr fun a _ j hj => swK_all _ _ _ _ a j hj)
      have HB := Lib.hid hbt
      clear hMk hbt hke
      go_wp2
      go_end0
      exact ⟨⟨_, rfl⟩, HF.out, HB.out⟩
end Go.Proofs.YtnilepaicnnbhaaDoor
