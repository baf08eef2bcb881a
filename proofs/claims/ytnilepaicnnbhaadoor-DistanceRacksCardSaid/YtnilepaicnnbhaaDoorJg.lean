/- package matrix: add; zero. -/
import Derived.Test.YtnilepaicnnbhaaDoorJf
namespace Go.GF
open Go Go.RowKit
/-- A multiple of row r is added to row i: as far as column k. -/
def addK (mul : Nat → Nat → Nat) (M : Mat) (i r f k : Nat) : Mat := fun i' j => if i' = i ∧ j < k then M i j ^^^ mul f (M r j) else M i' j
theorem addK_zero (mul : Nat → Nat → Nat) (M : Mat) (i r f : Nat) : addK mul M i r f 0 = M := by
  funext i' j; unfold addK; rw [if_neg (by omega)]
theorem addK_set (mul : Nat → Nat → Nat) (M : Mat) (i r f k : Nat) : setM (addK mul M i r f k) i k (M i k ^^^ mul f (M r k)) = addK mul M i r f (k + 1) := by
  funext i' j
  unfold setM addK
  by_cases h1 : i' = i ∧ j = k
  · obtain ⟨rfl, rfl⟩ := h1
    rw [if_pos ⟨rfl, rfl⟩, if_pos ⟨rfl, by omega⟩]
  · rw [if_neg h1]
    by_cases h2 : i' = i ∧ j < k
    · rw [if_pos h2, if_pos ⟨h2.1, by omega⟩]
    · rw [if_neg h2, if_neg (fun h => by
        rcases Nat.lt_or_ge j k with h3 | h3
        · exact h2 ⟨h.1, h3⟩
        · exact h1 ⟨h.1, by omega⟩)]
theorem addK_all (mul : Nat → Nat → Nat) (M : Mat) (i r f C : Nat) : ∀ a, ∀ j, j < C → addK mul M i r f C a j = addM mul M i r f a j := by
  intro a j hj
  unfold addK addM
  by_cases h : a = i
  · rw [if_pos ⟨h, hj⟩, if_pos h]
  · rw [if_neg (fun h' => h h'.1), if_neg h]
end Go.GF
namespace Go.Proofs.YtnilepaicnnbhaaDoor
open Go.RowKit Go.GF Go.Sl
attribute [local go_sem high] b_shl b_shl1 b_shr b_shr1 b_xor b_and1 b_nz b_n1

theorem TabF.but {b : Nat} {w w' : World} (h : TabF w) (hb : But b w w') (h0 : 0 < b) : TabF w' := by
  have hp := h.pos
  have h1 := hb.below (B := 1) h0 hp
  obtain ⟨a1, a2, a3, a4⟩ := h
  exact ⟨(h1.cell (p := ⟨0, 0, none⟩) (by simp)).trans a1, (h1.cell (p := ⟨0, 1, none⟩) (by simp)).trans a2, (h1.cell (p := ⟨0, 2, none⟩) (by simp)).trans a3, (h1.cell (p := ⟨0, 3, none⟩) (by simp)).trans a4⟩
abbrev TI : TypeId := 3

theorem info_int1 : (Tryd.prog.info? TI).map (·.size) = some 1 := by kernel_rfl
theorem exec_ixI {a : Act} {o : Oper} {w : World} {n c b off i : Nat} {x y : Operand} (ho : o.op = .indexAddr 26 x y) (hx : a.eval x = .slice (some ⟨b, off, none⟩) n c) (hy : a.eval y = .int .i64 (i : Int)) (hi : i < n) :
    (execOp a.eval o).run Tryd.prog w = .ok (.value (.pointer (some ⟨b, off + i, none⟩))) w := by
  obtain ⟨ti, hti, hts⟩ := Option.map_eq_some_iff.1 info_int1
  have h := exec_index_slice (P := Tryd.prog) (w := w) ho hx hy Tryd.underlying26 hti hts hi
  rwa [Nat.mul_one] at h
theorem exec_stI {a : Act} {o : Oper} {w : World} {x y : Operand} {ad : Addr} {z : Int} {u : Value} (ho : o.op = .store TI x y) (hx : a.eval x = .pointer (some ad)) (hy : a.eval y = .int .i64 z) (hc : w.cell? ad = some u) (hf : w.frozen? ad = false) :
    (execOp a.eval o).run Tryd.prog w = .ok .skip (w.setCell ad (.int .i64 z)) := by
  obtain ⟨ti, hti, hts⟩ := Option.map_eq_some_iff.1 info_int1
  exact exec_store_cell ho hx hy hti hts rfl hc hf

structure AdSt (w : World) (b R C m i r f : Nat) (M : Mat) (k : Value) (wr : World) : Prop where
  st : ∃ n : Nat, n ≤ C ∧ k = .int .i64 (n : Int) ∧ MatB wr b R C (addK (mulC m) M i r f n) ∧ But b w wr
set_option maxRecDepth 20000 in
set_option maxHeartbeats 2000000 in
theorem add_any (m : Nat) (hm : isF m) (R C b i r f : Nat) (hC : C ≤ 32) (hi : i < R) (hr : r < R) (hne : i ≠ r) (hb0 : 0 < b) (hf : f < 2 ^ m) (M : Mat) (hB : Bnd (2 ^ m) R C M) (c1 c2 : Nat) (w : World) (hT : TabF w) (hM : MatB w b R C M) :
    Calls Tryd.prog 73 #[.int .i64 (m : Int), .slice (some ⟨b, i * C, none⟩) C c1, .slice (some ⟨b, r * C, none⟩) C c2, .int .i64 (f : Int)] w fun e w' => (∃ v, e = .returned v) ∧ MatB w' b R C (addM (mulC m) M i r f) ∧ But b w w' := by
  have hm62 : m ≤ 62 := by rcases hm with rfl | rfl <;> omega
  have HTM := Lib.hid (fun x (hx : x < 2 ^ m) W (hT : TabF W) => times_any m hm f x hf hx W hT)
  have H0 := Lib.hid (And.intro hT hM)
  have HX := Lib.hid (And.intro hi (And.intro hr (And.intro hne (And.intro hB (And.intro (opsC hm) hf)))))
  have hlen : (C : Int) ≤ 32 := by omega
  clear hT hM hi hr hne hB hf hm
  obtain ⟨Pi, hPi⟩ : ∃ P, i * C = P := ⟨_, rfl⟩
  obtain ⟨Pr, hPr⟩ : ∃ P, r * C = P := ⟨_, rfl⟩
  rw [hPi, hPr]
  have HP := Lib.hid (And.intro hPi hPr)
  clear hPi hPr
  go_enter Tryd.func73, Tryd.ntmps73
  go_wp2
  go_loopw [12] (fun k wr => AdSt w b R C m i r f M k wr) (fun k _ => C - (intOf k).toNat)
  case atStart => exact ⟨⟨0, Nat.zero_le _, rfl, by rw [addK_zero]; exact H0.out.2, But.refl _ _⟩⟩
  case round =>
    obtain ⟨k, hk, rfl, hMk, hbt⟩ := hrel.st
    clear hrel
    by_cases hlt : k < C
    · have hltd : decide ((k : Int) < (C : Int)) = true := decide_eq_true (by omega)
      obtain ⟨hi, hr, hne, hB, hO, hf⟩ := HX.out
      have e1 := hMk.cell hr hlt
      have e2 := hMk.cell hi hlt
      have eM1 : addK (mulC m) M i r f k r k = M r k := by unfold addK; rw [if_neg (by omega)]
      have eM2 : addK (mulC m) M i r f k i k = M i k := by unfold addK; rw [if_neg (by omega)]
      rw [eM1, HP.out.2] at e1
      rw [eM2, HP.out.1] at e2
      have hbr := hB r hr k hlt
      have hbi := hB i hi k hlt
      have hml := hO.lt _ _ hf hbr
      have ht2 := HTM.out (M r k) hbr wr.drew (H0.out.1.but hbt.drew hb0)
      have hx1 := lt62 hbi hm62
      have hx2 := lt62 hml hm62
      have hbl := hMk.lt
      have hw : IntKind.i64.wrap ((k : Int) + 1) = (k : Int) + 1 := IntWalk.i64_in _ (by omega)
      have h1 : (0 : Int) ≤ (k : Int) ∧ (k : Int) < (C : Int) := by omega
      have HK := Lib.hid (And.intro hMk (And.intro hbt (addK_set (mulC m) M i r f k)))
      have HT2 := Lib.hid ht2
      clear hMk hbt eM1 eM2 hbr hbi hml hi hr hne hB hO hf ht2
      generalize hx : M r k = x at *
      generalize hy : M i k = y at *
      have HXY := Lib.hid (And.intro hx hy)
      clear hx hy
      go_upto_region 3 with (fail)
      have hS0 : wr.drew.cell? ⟨b, Pi + k, none⟩ = some (.int .i64 (y : Int)) := e2
      refine reg_begin (fun w' => w'.cell? ⟨b, Pi + k, none⟩ = some (.int .i64 (y : Int))) (by kernel_rfl) ?_
      (apply reg_take 0 rfl rfl (by decide +kernel) rfl); (intro w' h2; go_simp; rfl); exact hS0; simp only [List.setIfInBounds_toArray, List.set_cons_succ, List.set_cons_zero]
      (apply reg_take 1 rfl rfl (by decide +kernel) rfl); (intro w' h2; go_simp; rfl); exact hS0; simp only [List.setIfInBounds_toArray, List.set_cons_succ, List.set_cons_zero]
      refine reg_take 2 (v := .pointer (some ⟨b, Pi + k, none⟩)) rfl rfl (by decide +kernel) rfl (fun w' h => exec_ixI rfl rfl rfl hlt) hS0 ?_; simp only [List.setIfInBounds_toArray, List.set_cons_succ, List.set_cons_zero]
      (apply reg_take 3 rfl rfl (by decide +kernel) rfl); (intro w' h2; go_simp; rfl); exact hS0; simp only [List.setIfInBounds_toArray, List.set_cons_succ, List.set_cons_zero]
      (apply reg_take 4 rfl rfl (by decide +kernel) rfl); (intro w' h2; go_simp; rfl); exact hS0; simp only [List.setIfInBounds_toArray, List.set_cons_succ, List.set_cons_zero]
      (apply reg_take 5 rfl rfl (by decide +kernel) rfl); (intro w' h2; go_simp; rfl); exact hS0; simp only [List.setIfInBounds_toArray, List.set_cons_succ, List.set_cons_zero]
      (apply reg_take 6 rfl rfl (by decide +kernel) rfl); (intro w' h2; go_simp; rfl); exact hS0; simp only [List.setIfInBounds_toArray, List.set_cons_succ, List.set_cons_zero]
      refine reg_call 7 rfl rfl (by decide +kernel) rfl (f := 72) (args := #[.int .i64 (m : Int), .int .i64 (f : Int), .int .i64 (x : Int)]) (R := fun v w' => v = .int .i64 ((mulC m f x : Nat) : Int) ∧ Hid (Below wr.heap.size wr w')) (by kernel_rfl) (HT2.out.mono fun e w' h => ⟨_, h.1, rfl, ⟨h.2.os, h.2.tape, h.2.output, h.2.size, h.2.block⟩⟩) ?_
      rintro _ w1 ⟨rfl, hb1⟩
      have hS1 : w1.cell? ⟨b, Pi + k, none⟩ = some (.int .i64 (y : Int)) := (hb1.out.cell (p := ⟨b, Pi + k, none⟩) hbl).trans e2
      refine ⟨hS1, ?_⟩
      simp only [List.setIfInBounds_toArray, List.set_cons_succ, List.set_cons_zero]
      (apply reg_take 8 rfl rfl (by decide +kernel) rfl); (intro w' h2; go_simp; rfl); exact hS1; simp only [List.setIfInBounds_toArray, List.set_cons_succ, List.set_cons_zero]
      refine reg_take 9 (v := .pointer (some ⟨b, Pi + k, none⟩)) rfl rfl (by decide +kernel) rfl (fun w' h => exec_ixI rfl rfl rfl hlt) hS1 ?_; simp only [List.setIfInBounds_toArray, List.set_cons_succ, List.set_cons_zero]
      refine reg_do_last 10 (w1.setCell ⟨b, Pi + k, none⟩ (.int .i64 ((xorN y (mulC m f x) : Nat) : Int))) rfl rfl (by decide +kernel) rfl (exec_stI rfl rfl rfl hS1 ((HK.out.1.below (w' := w1) ⟨hb1.out.os, hb1.out.tape, hb1.out.output, hb1.out.size, hb1.out.block⟩).free _)) ?_
      have HN := Lib.hid (show MatB (w1.setCell ⟨b, Pi + k, none⟩ (.int .i64 ((xorN y (mulC m f x) : Nat) : Int))) b R C (addK (mulC m) M i r f (k + 1)) ∧ But b w (w1.setCell ⟨b, Pi + k, none⟩ (.int .i64 ((xorN y (mulC m f x) : Nat) : Int))) by
        obtain ⟨hMk, hbt, hse⟩ := HK.out
        refine ⟨?_, (hbt.trans (But.of hb1.out)).trans (But.set _ _ _ _)⟩
        rw [← hse, ← HP.out.1]
        exact (hMk.below hb1.out).set hlt _)
      generalize w1.setCell ⟨b, Pi + k, none⟩ (.int .i64 ((xorN y (mulC m f x) : Nat) : Int)) = w2 at *
      clear hS0 hS1 hb1 e1 e2 HT2 HK
      go_wp2
      go_roundw
      case rel => exact ⟨⟨k + 1, hlt, rfl, HN.out.1, HN.out.2⟩⟩
      case measure => simp only [intOf]; omega
    · have hke : k = C := by omega
      have hltd : decide ((k : Int) < (C : Int)) = false := decide_eq_false (by omega)
      have HF := Lib.hid (show MatB wr b R C (addM (mulC m) M i r f) by subst hke; exact hMk.congr fun a _ j hj => addK_all _ _ _ _ _ _ a j hj)
      have HB := Lib.hid hbt
      clear hMk hbt hke
      go_wp2
      go_end0
      exact ⟨⟨_, rfl⟩, HF.out, HB.out⟩
end Go.Proofs.YtnilepaicnnbhaaDoor
